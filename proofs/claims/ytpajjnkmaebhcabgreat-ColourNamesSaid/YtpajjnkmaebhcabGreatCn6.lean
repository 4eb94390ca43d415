/- Of ColourNames: part 6: what the walks rest on, contracts of functions and plain lemmas; no condition but those that each states. -/
import Derived.Test.YtpajjnkmaebhcabGreatCn5
import Derived.Shelf.SlSortCmp.NoneTotal
import Derived.Shelf.SlGeneric
set_option linter.unusedVariables false
set_option linter.unusedSimpArgs false
section
set_option linter.unusedVariables false
namespace Fil
theorem any_take {α : Type} {p : α → Bool} {l : List α} {k : Nat} {x : α} (hx : l[k]? = some x) (h : (l.take k).any p = false) : (l.take (k + 1)).any p = p x := by
  rw [List.take_add_one, hx, List.any_append, h]; simp
theorem any_at {α : Type} {p : α → Bool} {l : List α} {k : Nat} {x : α} (hx : l[k]? = some x) (h : p x = true) : l.any p = true := List.any_eq_true.2 ⟨x, List.mem_of_getElem? hx, h⟩
end Fil
namespace Go.Proofs.YtpajjnkmaebhcabGreat
open Go Go.RowKit Go.Sl Fil
set_option maxRecDepth 100000
set_option maxHeartbeats 8000000
set_option linter.unusedVariables false
set_option linter.unusedSimpArgs false
attribute [local irreducible] Code.wp wpList bodyPost wpQuiet Exit.then Exit.inBlock Post wpAnyH wpOp
theorem refColCheck_ok (n : Int) (v vi : Value) (es : List E) (c : List Int) (most : Int) (w : World) (hs : Shp v es.length) (hr : RO w No v (esV es)) (hm : es.length < 4611686018427387904) (hs2 : Shp vi c.length) (hr2 : RO w No vi (iV c)) :
    Calls Tryz.prog 14 #[.agg #[.int .i64 n, v], vi, .int .i64 most] w (Post w No (Just (.int .i64 (colK n es c most)))) := by
  have hlm := hs2.1
  simp only [maxLen] at hlm
  refine enter0 (vs := [_, _, _]) Tryz.func14 rfl Tryz.ntmps14 rfl ?_
  repeat' first
    | refine k_then ?_ | refine c_seq ?_ | refine c_region ?_ | refine s_nil ?_ | refine s_assign (by exact rfl) (by exact rfl) ?_ | refine s_ldk_box (by exact rfl) (by exact rfl) (by exact .head _) (by exact rfl) (by exact rfl) ?_ | refine o_box (by exact rfl) (by exact rfl) (fun b => ?_) | fail
  revert b; intro b3
  refine s_call (by exact rfl) (by exact rfl) (fun w h => refRight_ok n v es w hs (ro_old h hr) hm) ?_
  by_cases hR0 : rightK n es = 0
  case neg =>
    repeat' first
      | refine k_then ?_ | refine c_seq ?_ | refine c_region ?_ | refine s_nil ?_ | refine s_assign (by exact rfl) (by exact rfl) ?_ | refine s_neq (by exact rfl) (by exact rfl) (by exact rfl) ?_ | refine c_ret ?_ | refine k_then_ret ?_ | (refine c_cond_p (by exact rfl) (fun h => ?_) (fun h => ?_) <;> try (exfalso; omega)) | fail
    all_goals first
      | exact absurd (Classical.byContradiction h) hR0
      | refine ret1 [] rfl rfl rfl ⟨by rw [colK, if_neg hR0], rfl⟩
  have hi : colK n es c most = if (c.length : Int) ≠ n then 13 else if c.any (outC most) then 13 else if es.any (sameE c) then 13 else 0 := by rw [colK, if_pos hR0]
  have hR := right_iff.1 hR0
  rw [hR0]
  by_cases hl : (c.length : Int) = n
  case neg =>
    rw [if_pos hl] at hi
    repeat' first
      | refine k_then ?_ | refine c_seq ?_ | refine c_region ?_ | refine s_nil ?_ | refine s_move (by exact rfl) (by exact rfl) ?_ | refine s_assign (by exact rfl) (by exact rfl) ?_ | refine s_fa (by exact rfl) (by exact rfl) ?_ | refine s_ld_box (by exact rfl) (by exact rfl) (by exact .head _) (by exact rfl) ?_ | refine s_neq (by exact rfl) (by exact rfl) (by exact rfl) ?_ | refine s_len (by exact rfl) (by exact rfl) (by assumption) ?_ | refine c_skip ?_ | refine c_ret ?_ | refine k_then_ret ?_ | (refine c_cond_p (by exact rfl) (fun h => ?_) (fun h => ?_) <;> try (exfalso; omega)) | fail
    refine ret1 [] rfl rfl rfl ⟨by rw [hi], rfl⟩
  rw [if_neg (by omega)] at hi
  repeat' first
    | refine k_then ?_ | refine c_seq ?_ | refine c_region ?_ | refine s_nil ?_ | refine s_move (by exact rfl) (by exact rfl) ?_ | refine s_assign (by exact rfl) (by exact rfl) ?_ | refine s_fa (by exact rfl) (by exact rfl) ?_ | refine s_ld_box (by exact rfl) (by exact rfl) (by exact .head _) (by exact rfl) ?_ | refine s_neq (by exact rfl) (by exact rfl) (by exact rfl) ?_ | refine s_len (by exact rfl) (by exact rfl) (by assumption) ?_ | refine c_block ?_ | refine c_skip ?_ | (refine c_cond_p (by exact rfl) (fun h => ?_) (fun h => ?_) <;> try (exfalso; omega)) | fail
  refine c_loop (fun k : Nat => k ≤ c.length ∧ (c.take k).any (outC most) = false) (fun k => [(1, vi), (2, .int .i64 most), (3, .pointer (some ⟨b3, 0, none⟩)), (7, .int .i64 (k : Int))]) (fun _ => [boxHP b3 24 [.int .i64 n, v]]) (fun k => c.length - k) 0 [0] ⟨by omega, by simp⟩ (by exact rfl) ⟨rfl, rfl, rfl, rfl, trivial⟩ ?_
  rintro k ⟨hk, hq⟩
  by_cases hlt : k < c.length
  · obtain ⟨x, hx⟩ : ∃ x, c[k]? = some x := ⟨_, List.getElem?_eq_getElem hlt⟩
    have hcx : (iV c)[k * 1]? = some (.int .i64 x) := by simp [iV, hx]
    have h3 := any_take hx hq
    by_cases hox : x < 0 ∨ most ≤ x
    · have ho : c.any (outC most) = true := any_at hx (by simpa [outC] using hox)
      rw [ho, if_pos rfl] at hi
      repeat' first
        | refine k_then ?_ | refine c_seq ?_ | refine c_region ?_ | refine s_nil ?_ | refine s_move (by exact rfl) (by exact rfl) ?_ | refine s_assign (by exact rfl) (by exact rfl) ?_ | refine s_lss (by exact rfl) (by exact rfl) (by exact rfl) ?_ | refine s_len (by exact rfl) (by exact rfl) (by assumption) ?_ | refine s_idx (by exact rfl) (by exact rfl) (by exact rfl) (by assumption) (by first | assumption | omega) ?_ | refine s_pick_t (by exact rfl) (by exact rfl) (by exact rfl) ?_ | refine s_pick_f (by exact rfl) (by exact rfl) (by exact rfl) ?_ | refine s_ld_ro (by exact rfl) (by exact rfl) (by assumption) (by assumption) ?_ | refine c_block ?_ | refine c_skip ?_ | refine c_ret ?_ | refine k_then_ret ?_ | refine k_blk_ret ?_ | (refine c_cond_p (by exact rfl) (fun h => ?_) (fun h => ?_) <;> try (exfalso; omega)) | refine c_cond_t (by exact rfl) ?_ | (refine g_case (by exact rfl) (by exact rfl) (fun h => ?_) (fun h => ?_) <;> try (exfalso; omega)) | refine g_skip (by exact rfl) (by exact rfl) (by exact rfl) (by exact rfl) ?_ | refine w_move (by exact rfl) (by exact rfl) (by exact rfl) (by exact rfl) ?_ | refine w_geq (by exact rfl) (by exact rfl) (by exact rfl) (by exact rfl) (by exact rfl) ?_ | refine w_idx (by exact rfl) (by exact rfl) (by exact rfl) (by exact rfl) (by exact rfl) (by assumption) (by first | assumption | omega) ?_ | refine w_ld_ro (by exact rfl) (by exact rfl) (by exact rfl) (by exact rfl) (by assumption) (by assumption) ?_ | fail
      all_goals refine ret1 [] rfl rfl rfl ⟨by rw [hi], rfl⟩
    · have ho : outC most x = false := by simp only [outC, Bool.or_eq_false_iff, decide_eq_false_iff_not]; omega
      rw [ho] at h3
      repeat' first
        | refine k_then ?_ | refine c_seq ?_ | refine c_region ?_ | refine s_nil ?_ | refine s_move (by exact rfl) (by exact rfl) ?_ | refine s_assign (by exact rfl) (by exact rfl) ?_ | refine s_lss (by exact rfl) (by exact rfl) (by exact rfl) ?_ | refine s_add (by exact rfl) (by exact rfl) (by exact rfl) (by omega) ?_ | refine s_len (by exact rfl) (by exact rfl) (by assumption) ?_ | refine s_idx (by exact rfl) (by exact rfl) (by exact rfl) (by assumption) (by first | assumption | omega) ?_ | refine s_pick_f (by exact rfl) (by exact rfl) (by exact rfl) ?_ | refine s_ld_ro (by exact rfl) (by exact rfl) (by assumption) (by assumption) ?_ | refine c_block ?_ | refine c_skip ?_ | refine k_blk ?_ | (refine c_cond_p (by exact rfl) (fun h => ?_) (fun h => ?_) <;> try (exfalso; omega)) | (refine g_case (by exact rfl) (by exact rfl) (fun h => ?_) (fun h => ?_) <;> try (exfalso; omega)) | refine w_move (by exact rfl) (by exact rfl) (by exact rfl) (by exact rfl) ?_ | refine w_geq (by exact rfl) (by exact rfl) (by exact rfl) (by exact rfl) (by exact rfl) ?_ | refine w_idx (by exact rfl) (by exact rfl) (by exact rfl) (by exact rfl) (by exact rfl) (by assumption) (by first | assumption | omega) ?_ | refine w_ld_ro (by exact rfl) (by exact rfl) (by exact rfl) (by exact rfl) (by assumption) (by assumption) ?_ | fail
      refine c_round (k + 1) [0] (by exact rfl) (by exact ⟨rfl, rfl, rfl, rfl, trivial⟩) ⟨by omega, h3⟩ (by omega)
  · rw [List.take_of_length_le (by omega)] at hq
    rw [hq, if_neg (by simp)] at hi
    repeat' first
      | refine k_then ?_ | refine c_seq ?_ | refine c_region ?_ | refine s_nil ?_ | refine s_move (by exact rfl) (by exact rfl) ?_ | refine s_assign (by exact rfl) (by exact rfl) ?_ | refine s_lss (by exact rfl) (by exact rfl) (by exact rfl) ?_ | refine s_len (by exact rfl) (by exact rfl) (by assumption) ?_ | refine c_block ?_ | refine c_exit ?_ | refine k_then_exit ?_ | refine k_blk_eq ?_ | (refine c_cond_p (by exact rfl) (fun h => ?_) (fun h => ?_) <;> try (exfalso; omega)) | fail
    refine c_loop (fun k : Nat => k ≤ es.length ∧ (es.take k).any (sameE c) = false) (fun k => [(1, vi), (3, .pointer (some ⟨b3, 0, none⟩)), (8, .int .i64 (k : Int))]) (fun _ => [boxHP b3 24 [.int .i64 n, v]]) (fun k => es.length - k) 0 [0] ⟨by omega, by simp⟩ (by exact rfl) ⟨rfl, rfl, rfl, trivial⟩ ?_
    rintro j ⟨hj, hp⟩
    by_cases hlt2 : j < es.length
    · obtain ⟨e, he⟩ : ∃ e, es[j]? = some e := ⟨_, List.getElem?_eq_getElem hlt2⟩
      obtain ⟨hE0, hE1, hE2⟩ := esV_get he
      obtain ⟨q1, q2, q3, q4, -⟩ := hR.ok e (List.mem_of_getElem? he)
      obtain ⟨p, hp1⟩ : ∃ p : Nat, e.1 = (p : Int) := ⟨e.1.toNat, by omega⟩
      obtain ⟨q, hq1⟩ : ∃ q : Nat, e.2.1 = (q : Int) := ⟨e.2.1.toNat, by omega⟩
      have hcp : (iV c)[p * 1]? = some (.int .i64 (c.getD p 0)) := by rw [Nat.mul_one, iV, List.getElem?_map, List.getD_eq_getElem?_getD, List.getElem?_eq_getElem (by omega)]; rfl
      have hcq : (iV c)[q * 1]? = some (.int .i64 (c.getD q 0)) := by rw [Nat.mul_one, iV, List.getElem?_map, List.getD_eq_getElem?_getD, List.getElem?_eq_getElem (by omega)]; rfl
      have h3 := any_take he hp
      have hsm : sameE c e = decide (c.getD p 0 = c.getD q 0) := by rw [sameE, hp1, hq1]; rfl
      rw [hp1] at hE0
      rw [hq1] at hE1
      repeat' first
        | refine k_then ?_ | refine c_seq ?_ | refine c_region ?_ | refine s_nil ?_ | refine s_move (by exact rfl) (by exact rfl) ?_ | refine s_fa (by exact rfl) (by exact rfl) ?_ | refine s_ld_box (by exact rfl) (by exact rfl) (by exact .head _) (by exact rfl) ?_ | refine s_lss (by exact rfl) (by exact rfl) (by exact rfl) ?_ | refine s_len (by exact rfl) (by exact rfl) (by assumption) ?_ | refine c_block ?_ | refine c_skip ?_ | (refine c_cond_p (by exact rfl) (fun h => ?_) (fun h => ?_) <;> try (exfalso; omega)) | fail
      refine p_begin0 [(0, true), (1, true), (2, true), (3, true), (4, true), (5, true), (6, true), (7, true), (8, true), (9, true), (10, true), (11, true), (12, true), (13, true), (14, true), (15, true), (16, true), (17, true), (18, true)] (by kernel_rfl) ?_
      repeat' first
        | refine p_nil ?_
        | (refine p_at (by exact rfl) ?_
           first
            | refine t_move (by exact rfl) (by exact rfl) (by exact fun _ h => h) ?_ | refine t_fa (by exact rfl) (by exact rfl) (by exact fun _ h => h) ?_ | refine t_ld_box (by exact rfl) (by exact rfl) (by exact .head _) (by exact rfl) (by exact fun _ h => h) ?_ | refine t_eql (by exact rfl) (by exact rfl) (by exact rfl) (by exact fun _ h => h) ?_ | refine t_idx (by exact rfl) (by exact rfl) (by exact rfl) (by assumption) (by first | assumption | omega) (by exact fun _ h => h) ?_ | refine t_fap (by exact rfl) (by exact rfl) (by assumption) (by omega) (by exact fun _ h => h) ?_ | refine t_ld_ro (by exact rfl) (by exact rfl) (by assumption) (by assumption) (by exact fun _ h => h) ?_ | fail)
        | fail
      repeat' first
        | refine k_then ?_ | refine c_seq ?_ | refine c_region ?_ | refine s_nil ?_ | refine s_move (by exact rfl) (by exact rfl) ?_ | refine s_assign (by exact rfl) (by exact rfl) ?_ | refine s_add (by exact rfl) (by exact rfl) (by exact rfl) (by omega) ?_ | refine c_skip ?_ | refine c_ret ?_ | refine k_then_ret ?_ | refine k_blk ?_ | refine k_blk_ret ?_ | (refine c_cond_p (by exact rfl) (fun h => ?_) (fun h => ?_) <;> try (exfalso; omega)) | fail
      · have ho : es.any (sameE c) = true := any_at he (by rw [hsm]; exact decide_eq_true h)
        rw [ho, if_pos rfl] at hi
        refine ret1 [] rfl rfl rfl ⟨by rw [hi], rfl⟩
      · rw [hsm, decide_eq_false h] at h3
        refine c_round (j + 1) [0] (by exact rfl) (by exact ⟨rfl, rfl, rfl, trivial⟩) ⟨by omega, h3⟩ (by omega)
    · rw [List.take_of_length_le (by omega)] at hp
      rw [hp, if_neg (by simp)] at hi
      repeat' first
        | refine k_then ?_ | refine c_seq ?_ | refine c_region ?_ | refine s_nil ?_ | refine s_move (by exact rfl) (by exact rfl) ?_ | refine s_assign (by exact rfl) (by exact rfl) ?_ | refine s_fa (by exact rfl) (by exact rfl) ?_ | refine s_ld_box (by exact rfl) (by exact rfl) (by exact .head _) (by exact rfl) ?_ | refine s_lss (by exact rfl) (by exact rfl) (by exact rfl) ?_ | refine s_len (by exact rfl) (by exact rfl) (by assumption) ?_ | refine c_exit ?_ | refine c_ret ?_ | refine k_then_exit ?_ | refine k_blk_eq ?_ | (refine c_cond_p (by exact rfl) (fun h => ?_) (fun h => ?_) <;> try (exfalso; omega)) | fail
      refine ret1 [] rfl rfl rfl ⟨by rw [hi], rfl⟩
end Go.Proofs.YtpajjnkmaebhcabGreat
end
section
set_option linter.unusedVariables false
namespace Fil
def sumL (ls : List (List Int)) : Nat := (ls.map List.length).sum
theorem sumL_take {ls : List (List Int)} {k : Nat} {l : List Int} (h : ls[k]? = some l) : sumL (ls.take (k + 1)) = sumL (ls.take k) + l.length := by
  rw [List.take_add_one, h, sumL, List.map_append, List.sum_append]
  simp [sumL]
theorem sumL_le : ∀ {ls : List (List Int)} {l : List Int}, l ∈ ls → l.length ≤ sumL ls
  | x :: ls, l, h => by
    simp only [sumL, List.map_cons, List.sum_cons]
    rcases List.mem_cons.1 h with rfl | h
    · omega
    · have := sumL_le h
      simp only [sumL] at this
      omega
theorem sumL_mono (ls : List (List Int)) (k : Nat) : sumL (ls.take k) ≤ sumL ls := by
  conv => rhs; rw [← List.take_append_drop k ls, sumL, List.map_append, List.sum_append]
  exact Nat.le_add_right _ _
def light7 (n : Int) (m : Nat) (ls : List (List Int)) (k : Int) : Bool := (decide (n ≤ k) && decide ((m : Int) ≤ 4 * k)) && decide ((ls.length : Int) ≤ 2 * k) && decide ((sumL ls : Int) ≤ 1000)
theorem light7_t {n : Int} {m : Nat} {ls : List (List Int)} {k : Int} (h : light7 n m ls k = true) : n ≤ k ∧ (m : Int) ≤ 4 * k ∧ (ls.length : Int) ≤ 2 * k ∧ ∀ l ∈ ls, l.length ≤ 1000 := by
  simp only [light7, Bool.and_eq_true, decide_eq_true_eq] at h
  obtain ⟨⟨⟨h1, h2⟩, h3⟩, h4⟩ := h
  exact ⟨h1, h2, h3, fun l hl => by have := sumL_le hl; omega⟩
end Fil
namespace Go.Proofs.YtpajjnkmaebhcabGreat
open Go.RowKit Go.Sl Fil
set_option maxRecDepth 100000
set_option maxHeartbeats 8000000
set_option linter.unusedVariables false
set_option linter.unusedSimpArgs false
attribute [local irreducible] Code.wp wpList bodyPost wpQuiet Exit.then Exit.inBlock Post wpAnyH wpOp
theorem Light7_ok (n : Int) (v : Value) (m : Nat) (vr : Value) (hr0 : List Value) (ls : List (List Int)) (k : Int) (w : World) (hs : Shp v m) (hR : ROsI w No vr hr0 ls) (hlen : ∀ l ∈ ls, l.length ≤ 17592186044416) (hk : 0 ≤ k ∧ k < 1000000) :
    Calls Tryz.prog 10 #[.agg #[.int .i64 n, v], vr, .int .i64 k] w (Post w No (Just (.bool (light7 n m ls k)))) := by
  have hsr := hR.shp
  have hrr := hR.ro
  have hls := hsr.1
  simp only [maxLen] at hls
  refine enter0 (vs := [_, _, _]) Tryz.func10 rfl Tryz.ntmps10 rfl ?_
  repeat' first
    | refine k_then ?_ | refine c_seq ?_ | refine c_region ?_ | refine s_nil ?_ | refine s_assign (by exact rfl) (by exact rfl) ?_ | refine o_box (by exact rfl) (by exact rfl) (fun b => ?_) | refine c_block ?_
  refine c_loop (fun i : Nat => i ≤ ls.length) (fun i => [(1, vr), (2, .int .i64 k), (3, .pointer (some ⟨b, 0, none⟩)), (6, .bool false), (7, .int .i64 (sumL (ls.take i) : Int)), (8, .int .i64 (i : Int))]) (fun _ => [boxHP b 24 (Value.agg #[.int .i64 n, v]).cells.toList]) (fun i => ls.length - i) 0 [0] (Nat.zero_le _) rfl ⟨rfl, rfl, rfl, rfl, rfl, rfl, trivial⟩ ?_
  rintro i hi
  by_cases hlt : i < ls.length
  · obtain ⟨hx, hhx⟩ : ∃ x, hr0[i]? = some x := ⟨_, List.getElem?_eq_getElem (by have := hR.len; omega)⟩
    obtain ⟨l, hl⟩ : ∃ l, ls[i]? = some l := ⟨_, List.getElem?_eq_getElem hlt⟩
    obtain ⟨hsx, hrx⟩ := hR.kid i hx l hhx hl
    have h1' : hr0[i * 1]? = some hx := by rw [Nat.mul_one]; exact hhx
    have hm := hlen l (List.mem_of_getElem? hl)
    have hst := sumL_take hl
    by_cases h10 : sumL (ls.take i) ≤ 1000
    · repeat' first
        | refine k_then ?_ | refine c_seq ?_ | refine c_region ?_ | refine s_nil ?_ | refine s_move (by exact rfl) (by exact rfl) ?_ | refine s_assign (by exact rfl) (by exact rfl) ?_ | refine s_lss (by exact rfl) (by exact rfl) (by exact rfl) ?_ | refine s_add (by exact rfl) (by exact rfl) (by exact rfl) (by omega) ?_ | refine s_len (by exact rfl) (by exact rfl) (by assumption) ?_ | refine s_idx (by exact rfl) (by exact rfl) (by exact rfl) (by assumption) (by first | assumption | omega) ?_ | refine s_pick_t (by exact rfl) (by exact rfl) (by exact rfl) ?_ | refine s_ld_ro (by exact rfl) (by exact rfl) (by assumption) (by assumption) ?_ | refine c_block ?_ | refine c_skip ?_ | refine k_blk ?_ | (refine c_cond_p (by exact rfl) (fun h => ?_) (fun h => ?_) <;> try (exfalso; omega)) | (refine g_case (by exact rfl) (by exact rfl) (fun h => ?_) (fun h => ?_) <;> try (exfalso; omega)) | refine w_move (by exact rfl) (by exact rfl) (by exact rfl) (by exact rfl) ?_ | refine w_leq (by exact rfl) (by exact rfl) (by exact rfl) (by exact rfl) (by exact rfl) ?_
      refine c_round (i + 1) [0] (by exact rfl) ?_ (by omega) (by omega)
      rw [hst, Int.natCast_add]
      exact ⟨rfl, rfl, rfl, rfl, rfl, rfl, trivial⟩
    · have hmo := sumL_mono ls i
      repeat' first
        | refine k_then ?_ | refine c_seq ?_ | refine c_region ?_ | refine s_nil ?_ | refine s_move (by exact rfl) (by exact rfl) ?_ | refine s_lss (by exact rfl) (by exact rfl) (by exact rfl) ?_ | refine s_len (by exact rfl) (by exact rfl) (by assumption) ?_ | refine s_pick_t (by exact rfl) (by exact rfl) (by exact rfl) ?_ | refine s_ldk_box (by exact rfl) (by exact rfl) (by exact .head _) (by exact rfl) (by exact rfl) ?_ | refine c_exit ?_ | refine k_then_exit ?_ | refine k_blk_eq ?_ | (refine c_cond_p (by exact rfl) (fun h => ?_) (fun h => ?_) <;> try (exfalso; omega)) | (refine g_case (by exact rfl) (by exact rfl) (fun h => ?_) (fun h => ?_) <;> try (exfalso; omega)) | refine w_move (by exact rfl) (by exact rfl) (by exact rfl) (by exact rfl) ?_ | refine w_leq (by exact rfl) (by exact rfl) (by exact rfl) (by exact rfl) (by exact rfl) ?_
      refine s_call (by exact rfl) (by exact rfl) (fun w h => Light_ok n v m k w hs hk) ?_
      unfold light7
      rw [show decide ((sumL ls : Int) ≤ 1000) = false from decide_eq_false (by omega), Bool.and_false]
      cases hb : (decide (n ≤ k) && decide ((m : Int) ≤ 4 * k))
      · repeat' first
          | refine k_then ?_ | refine s_nil ?_ | refine s_move (by exact rfl) (by exact rfl) ?_ | refine s_assign (by exact rfl) (by exact rfl) ?_ | refine s_pick_f (by exact rfl) (by exact rfl) (by exact rfl) ?_ | refine c_ret ?_ | refine g_skip (by exact rfl) (by exact rfl) (by exact rfl) (by exact rfl) ?_
        refine ret1 [] rfl rfl rfl ⟨rfl, rfl⟩
      · repeat' first
          | refine k_then ?_ | refine s_nil ?_ | refine s_move (by exact rfl) (by exact rfl) ?_ | refine s_assign (by exact rfl) (by exact rfl) ?_ | refine s_pick_t (by exact rfl) (by exact rfl) (by exact rfl) ?_ | refine s_pick_f (by exact rfl) (by exact rfl) (by exact rfl) ?_ | refine c_ret ?_ | (refine g_case (by exact rfl) (by exact rfl) (fun h => ?_) (fun h => ?_) <;> try (exfalso; omega)) | refine g_skip (by exact rfl) (by exact rfl) (by exact rfl) (by exact rfl) ?_ | refine w_move (by exact rfl) (by exact rfl) (by exact rfl) (by exact rfl) ?_ | refine w_leq (by exact rfl) (by exact rfl) (by exact rfl) (by exact rfl) (by exact rfl) ?_ | refine w_mul (by exact rfl) (by exact rfl) (by exact rfl) (by exact rfl) (by exact rfl) (by omega) ?_ | refine w_len (by exact rfl) (by exact rfl) (by exact rfl) (by exact rfl) (by assumption) ?_
        all_goals refine ret1 [] rfl rfl rfl ⟨congrArg Value.bool ?_, rfl⟩
        all_goals simp only [decide_eq_false_iff_not]
        all_goals omega
  · repeat' first
      | refine k_then ?_ | refine c_seq ?_ | refine c_region ?_ | refine s_nil ?_ | refine s_move (by exact rfl) (by exact rfl) ?_ | refine s_lss (by exact rfl) (by exact rfl) (by exact rfl) ?_ | refine s_len (by exact rfl) (by exact rfl) (by assumption) ?_ | refine s_pick_f (by exact rfl) (by exact rfl) (by exact rfl) ?_ | refine s_ldk_box (by exact rfl) (by exact rfl) (by exact .head _) (by exact rfl) (by exact rfl) ?_ | refine c_exit ?_ | refine k_then_exit ?_ | refine k_blk_eq ?_ | refine c_cond_f (by exact rfl) ?_ | (refine g_case (by exact rfl) (by exact rfl) (fun h => ?_) (fun h => ?_) <;> try (exfalso; omega)) | refine g_skip (by exact rfl) (by exact rfl) (by exact rfl) (by exact rfl) ?_
    obtain rfl : i = ls.length := by omega
    rw [List.take_length]
    refine s_call (by exact rfl) (by exact rfl) (fun w h => Light_ok n v m k w hs hk) ?_
    unfold light7
    cases hb : (decide (n ≤ k) && decide ((m : Int) ≤ 4 * k))
    · repeat' first
        | refine k_then ?_ | refine s_nil ?_ | refine s_move (by exact rfl) (by exact rfl) ?_ | refine s_assign (by exact rfl) (by exact rfl) ?_ | refine s_pick_f (by exact rfl) (by exact rfl) (by exact rfl) ?_ | refine c_ret ?_ | refine g_skip (by exact rfl) (by exact rfl) (by exact rfl) (by exact rfl) ?_
      all_goals refine ret1 [] rfl rfl rfl ⟨rfl, rfl⟩
    · repeat' first
        | refine k_then ?_ | refine s_nil ?_ | refine s_move (by exact rfl) (by exact rfl) ?_ | refine s_assign (by exact rfl) (by exact rfl) ?_ | refine s_pick_t (by exact rfl) (by exact rfl) (by exact rfl) ?_ | refine s_pick_f (by exact rfl) (by exact rfl) (by exact rfl) ?_ | refine c_ret ?_ | (refine g_case (by exact rfl) (by exact rfl) (fun h => ?_) (fun h => ?_) <;> try (exfalso; omega)) | refine g_skip (by exact rfl) (by exact rfl) (by exact rfl) (by exact rfl) ?_ | refine w_move (by exact rfl) (by exact rfl) (by exact rfl) (by exact rfl) ?_ | refine w_leq (by exact rfl) (by exact rfl) (by exact rfl) (by exact rfl) (by exact rfl) ?_ | refine w_mul (by exact rfl) (by exact rfl) (by exact rfl) (by exact rfl) (by exact rfl) (by omega) ?_ | refine w_len (by exact rfl) (by exact rfl) (by exact rfl) (by exact rfl) (by assumption) ?_
      · refine ret1 [] rfl rfl rfl ⟨congrArg Value.bool ?_, rfl⟩
        rw [decide_eq_true h, Bool.and_true, Bool.true_and]
      · refine ret1 [] rfl rfl rfl ⟨congrArg Value.bool ?_, rfl⟩
        rw [decide_eq_false h, Bool.and_false, Bool.false_and]
end Go.Proofs.YtpajjnkmaebhcabGreat
end
section
set_option linter.unusedVariables false
namespace Go.Proofs.YtpajjnkmaebhcabGreat
open Go Go.RowKit Go.Sl Fil
theorem calls_ex {P : Program} {f : FuncId} {args : Array Value} {w : World} {R : Ending → World → Prop} (h : Calls P f args w R) : ∃ e w', R e w' := by
  obtain ⟨e, w', _, hR, _⟩ := h []
  exact ⟨e, w', hR⟩
theorem lev_ex (w : World) {n : Int} {es : List E} (hR : RightG n es) : ∃ o lab, Lev n.toNat (nb (tn es)) o lab := by
  have hm := hR.many
  let W : World := { w with heap := #[.cells (esV es).toArray 37 (0, 0)] }
  have hs : Shp (.slice (some ⟨0, 0, none⟩) es.length es.length) es.length := ⟨by simp only [maxLen]; omega, .inr (.inl ⟨0, 0, es.length, rfl, Nat.le_refl _, by simp only [maxLen]; omega⟩)⟩
  have hr : RO W No (.slice (some ⟨0, 0, none⟩) es.length es.length) (esV es) := RO.of_rd fun j u hj => ⟨0, 0, es.length, es.length, rfl, by simp [World.cell?, W, hj]⟩
  obtain ⟨e, w', h⟩ := calls_ex (Components_ok n _ es W hs hr hR)
  obtain ⟨v, L, hG, _⟩ := h
  obtain ⟨met, out, lab, _, hB, _⟩ := hG
  exact ⟨_, _, hB.lev⟩
def es3 : List E := [(0, 1, 0), (0, 2, 0), (1, 2, 0)]
def R3 : List (List Nat) := [[1, 2], [2, 0], [0, 1]]
theorem right3 : RightG 3 es3 := right_iff.1 (by decide)
theorem rot3 : RotL (3 : Int).toNat (tn es3) R3 where
  len := rfl
  perm v hv := by
    match v, hv with
    | 0, _ => decide
    | 1, _ => decide
    | 2, _ => decide
theorem darts3 : dartsAll (3 : Int).toNat (tn es3) = [(0, 1), (0, 2), (1, 0), (1, 2), (2, 0), (2, 1)] := by
  have h : nearS (tn es3) = fun u => (List.range (3 : Int).toNat).filter (fun v => decide (v ∈ rf R3 u)) := funext fun u => (near_filter right3 rot3 u).symm
  rw [dartsAll, h]
  decide
theorem faces3 : facesR (3 : Int).toNat (tn es3) R3 = [[(0, 1), (1, 2), (2, 0)], [(0, 2), (2, 1), (1, 0)]] := by
  rw [facesR, darts3]
  decide
theorem lab3 {o lab : Nat → Nat} (hL : Lev (3 : Int).toNat (nb (tn es3)) o lab) : compsS (3 : Int).toNat lab = [[0, 1, 2]] := by
  have hG : Fil.Good (3 : Int).toNat (tn es3) := right3.good
  have hlab : (List.range 3).map lab = [0, 0, 0] := by
    have h := ref_labels hG hL
    have h2 : rounds relaxL (tn es3) (3 : Int).toNat (List.range (3 : Int).toNat) = [0, 0, 0] := by decide
    rw [h2] at h
    exact h.symm
  have h : lab 0 = 0 ∧ lab 1 = 0 ∧ lab 2 = 0 := by simpa [List.range_succ] using hlab
  have e : ∀ v, v < 3 → lab v = (fun _ => 0) v := fun v hv => by
    match v, hv with
    | 0, _ => exact h.1
    | 1, _ => exact h.2.1
    | 2, _ => exact h.2.2
  exact (compsS_congr (N := 3) e).trans (by decide)
theorem euler3 {o lab : Nat → Nat} (hL : Lev (3 : Int).toNat (nb (tn es3)) o lab) : eulerL (3 : Int).toNat (tn es3) lab (facesR (3 : Int).toNat (tn es3) R3) = [2] := by
  rw [eulerL, lab3 hL, faces3]
  decide
set_option maxRecDepth 100000
set_option maxHeartbeats 8000000
set_option linter.unusedVariables false
set_option linter.unusedSimpArgs false
attribute [local irreducible] Code.wp wpList bodyPost wpQuiet Exit.then Exit.inBlock Post wpAnyH wpOp
end Go.Proofs.YtpajjnkmaebhcabGreat
end
section
set_option linter.unusedVariables false
set_option linter.unusedSimpArgs false
namespace Go.Sl
open Go Go.RowKit
section
variable {P : Program} {w0 : World} {S0 : FS} {n : Nat} {F : List (Nat × Value)} {L Lk : List HP} {ops : Array Oper} {Q : Exit → Act → World → Prop}
/-- whatever order the operations of seg come up in, and behind them K -/
def wpSeg (P : Program) (ops : Array Oper) (Q : Exit → Act → World → Prop) (S : World → Prop) (seg : List Nat) (K : Array Bool → Act → World → Prop) : Nat → Array Bool → Act → World → Prop
  | 0, l, a, w => (∀ j ∈ seg, l.getD j true = true) ∧ K l a w
  | n + 1, l, a, w => Region.ready .any ops l ≠ [] ∧ ∀ i ∈ Region.ready .any ops l, i ∈ seg ∧ wpOp P ops Q i (fun a' w' => S w' ∧ wpSeg P ops Q S seg K n (l.setIfInBounds i true) a' w') a w
theorem wpSeg_any {S : World → Prop} {seg : List Nat} {m : Nat} : ∀ (k : Nat) (l : Array Bool) (a : Act) (w : World), wpSeg P ops Q S seg (wpAny P .any ops Q m) k l a w → wpAny P .any ops Q (m + k) l a w
  | 0, _, _, _, h => h.2
  | k + 1, l, a, w, h => ⟨fun e => absurd e h.1, fun i hi => wpOp_mono (fun a' w' h' => wpSeg_any k _ a' w' h'.2) (h.2 i hi).2⟩
theorem wpSeg_first {S : World → Prop} {seg : List Nat} {K : Array Bool → Act → World → Prop} {i : Nat} {oi : Oper} {v : Value} (hi : ops[i]? = some oi) (hsel : ∀ (j : Nat) (o : Oper) cs b, ops[j]? = some o → o.op ≠ .select cs b)
    (hQ : ∀ c a w, Q (.panic c) (a.put oi.dst v) w → Q (.panic c) a w) (hseg : i ∈ seg) (hdep : ∀ j oj, ops[j]? = some oj → j ∉ seg → ∃ e ∈ oj.after, Region.binds .any e = true ∧ e.on = i) :
    ∀ (k : Nat) (l : Array Bool) (a : Act) (w : World),
      (∀ j oj, ops[j]? = some oj → j ≠ i → l.getD j true = false → (∀ e ∈ oj.after, Region.binds .any e = true → e.on ≠ i) → oi.apart ops oj = true) →
      i ∈ Region.ready .any ops l → YieldsIf P ops S oi v a → S w →
      wpSeg P ops Q S seg K k (l.setIfInBounds i true) (a.put oi.dst v) w → wpSeg P ops Q S seg K (k + 1) l a w := by
  have waits : ∀ (l : Array Bool) (e : Edge), l.getD i true = false → e.on = i → l.getD e.on false = true → False := by
    intro l e h0 heq h1
    rw [heq] at h1
    rcases Nat.lt_or_ge i l.size with h' | h'
    · simp [h'] at h0 h1; rw [h0] at h1; cases h1
    · simp [Array.getElem?_eq_none h'] at h1
  intro k
  induction k with
  | zero =>
    intro l a w _ hr hy hS H
    refine ⟨fun e => (by rw [e] at hr; cases hr), fun j hj => ?_⟩
    by_cases hji : j = i
    · subst hji; exact ⟨hseg, hy.wpOp hi hS ⟨hS, H⟩⟩
    · exfalso
      obtain ⟨hun, oj, hoj, hall⟩ := mem_ready.1 hj
      by_cases hjs : j ∈ seg
      · have := H.1 j hjs
        rw [getD_set_ne true (Ne.symm hji), hun] at this
        cases this
      · obtain ⟨e, he, hb, heq⟩ := hdep j oj hoj hjs
        exact waits l e (mem_ready.1 hr).1 heq (hall e he hb)
  | succ k ih =>
    intro l a w hfree hr hy hS H
    refine ⟨fun e => (by rw [e] at hr; cases hr), fun j hj => ?_⟩
    by_cases hji : j = i
    · subst hji; exact ⟨hseg, hy.wpOp hi hS ⟨hS, H⟩⟩
    · obtain ⟨hjs, h1⟩ := H.2 j (ready_mono hj hji)
      refine ⟨hjs, ?_⟩
      obtain ⟨hun, oj, hoj, hall⟩ := mem_ready.1 hj
      have hnot : ∀ e ∈ oj.after, Region.binds .any e = true → e.on ≠ i := fun e he hb heq => waits l e (mem_ready.1 hr).1 heq (hall e he hb)
      have h2 := wpOp_putIf hoj (hfree j oj hoj hji hun hnot) (fun cs b => hsel i oi cs b hi) (fun cs b => hsel j oj cs b hoj) hQ hy h1
      refine wpOp_mono (fun a' w' h3 => ⟨h3.2.1, ih (l.setIfInBounds j true) a' w' (fun k ok hk hki hu hno => ?_) (ready_mono hr (Ne.symm hji)) h3.1 h3.2.1 ?_⟩) h2
      · refine hfree k ok hk hki ?_ hno
        by_cases hjk : j = k
        · subst hjk; exact hun
        · rw [getD_set_ne true hjk] at hu; exact hu
      · rw [Array.setIfInBounds_comm _ _ hji]
        exact h3.2.2
/-- the end of the first phase: what the second one asks -/
def cutK (P : Program) (ops : Array Oper) (Q : Exit → Act → World → Prop) (plan : List PI) : Exit → Act → World → Prop
  | .normal, a, w => ∃ S : World → Prop, S w ∧ PW P ops Q S plan a w
  | e, a, w => Q e a w
instance {plan : List PI} [T : PO Q] : PO (cutK P ops Q plan) := ⟨fun c a d v w h => T.ok c a d v w h⟩
theorem wpOp_cutK {plan : List PI} {i : Nat} {K : Act → World → Prop} {a : Act} {w : World} (h : wpOp P ops (cutK P ops Q plan) i K a w) : wpOp P ops Q i K a w := by
  unfold wpOp at *
  split
  · rename_i ho
    rw [ho] at h
    exact h
  · rename_i o ho
    rw [ho] at h
    dsimp only at h
    split
    · rename_i hw
      rw [if_pos hw] at h
      refine h.imp (fun h => ?_) (fun h => ⟨h.1, h.2⟩)
      unfold Oper.wp at *
      generalize (execOp a.eval o).run P w = r at *
      unfold Oper.upon at *
      split at h
      all_goals first
        | exact h
        | exact Calls.mono h fun e w'' he => by cases e <;> exact he
    · rename_i hw
      rw [if_neg hw] at h
      exact h
def PT.ids : PT → List Nat
  | .leaf => []
  | .one i a => i :: a.ids
  | .two i a j b => i :: j :: (a.ids ++ b.ids)
def segOf : List PI → List Nat
  | [] => []
  | .mk i _ :: l => i :: segOf l
  | .rd i j :: l => i :: j :: segOf l
  | .tree t :: l => t.ids ++ segOf l
def depsOk (ops : Array Oper) (seg : List Nat) (i : Nat) : Bool :=
  seg.contains i && (List.range ops.size).all fun j => seg.contains j || (match ops[j]? with | some o => o.after.any fun e => Region.binds .any e && e.on == i | none => true)
def treeOk1 (ops : Array Oper) (seg : List Nat) (k : Array Bool → Bool) : Array Bool → PT → Bool
  | listed, .leaf => k listed
  | listed, .one i a => seg.contains i && Region.ready .any ops listed == [i] && treeOk1 ops seg k (listed.setIfInBounds i true) a
  | listed, .two i a j b => seg.contains i && seg.contains j && (Region.ready .any ops listed == [i, j] || Region.ready .any ops listed == [j, i]) && a.n == b.n && treeOk1 ops seg k (listed.setIfInBounds i true) a && treeOk1 ops seg k (listed.setIfInBounds j true) b
def planOk1 (ops : Array Oper) (seg : List Nat) (plan2 : List PI) : Array Bool → List PI → Bool
  | listed, [] => seg.all (fun j => listed.getD j true) && planOk ops listed plan2
  | listed, .rd _ _ :: _ => false
  | listed, .tree t :: rest => treeOk1 ops seg (fun l => planOk1 ops seg plan2 l rest) listed t
  | listed, .mk i t :: rest => (if t then (Region.ready .any ops listed).contains i && Region.free .any ops listed i && depsOk ops seg i else seg.contains i && Region.ready .any ops listed == [i]) && planOk1 ops seg plan2 (listed.setIfInBounds i true) rest
theorem pwt_sound1 {S : World → Prop} {plan2 : List PI} {seg : List Nat} {K : Act → World → Prop} {KK : Array Bool → Act → World → Prop} {k : Array Bool → Bool} {m : Nat} (hk : ∀ l a w, k l = true → K a w → wpSeg P ops Q S seg KK m l a w) : ∀ (t : PT) (listed : Array Bool) (a : Act) (w : World), treeOk1 ops seg k listed t = true → PWt P ops (cutK P ops Q plan2) S K t a w → wpSeg P ops Q S seg KK (m + t.n) listed a w
  | .leaf, listed, a, w, hp, h => hk listed a w hp h
  | .one i t, listed, a, w, hp, h => by
    simp only [treeOk1, Bool.and_eq_true] at hp
    have e : Region.ready .any ops listed = [i] := by simpa using hp.1.2
    refine ⟨by rw [e]; simp, fun j hj => ?_⟩
    rw [e] at hj
    obtain rfl : j = i := by simpa using hj
    exact ⟨by simpa using hp.1.1, wpOp_mono (fun a' w' ⟨h1, h2⟩ => ⟨h1, pwt_sound1 hk t _ _ _ hp.2 h2⟩) (wpOp_cutK h)⟩
  | .two i t j u, listed, a, w, hp, h => by
    simp only [treeOk1, Bool.and_eq_true, Bool.or_eq_true, beq_iff_eq] at hp
    obtain ⟨⟨⟨⟨⟨s1, s2⟩, h1⟩, h2⟩, h3⟩, h4⟩ := hp
    have key : ∀ k, k = i ∨ k = j → k ∈ seg ∧ wpOp P ops Q k (fun a' w' => S w' ∧ wpSeg P ops Q S seg KK (m + t.n) (listed.setIfInBounds k true) a' w') a w := by
      rintro k (rfl | rfl)
      · exact ⟨by simpa using s1, wpOp_mono (fun a' w' ⟨h5, h6⟩ => ⟨h5, pwt_sound1 hk t _ _ _ h3 h6⟩) (wpOp_cutK h.1)⟩
      · rw [h2]
        exact ⟨by simpa using s2, wpOp_mono (fun a' w' ⟨h5, h6⟩ => ⟨h5, pwt_sound1 hk u _ _ _ h4 h6⟩) (wpOp_cutK h.2)⟩
    rcases h1 with h1 | h1
    · exact ⟨by rw [h1]; simp, fun k hk => key k (by rw [h1] at hk; simpa using hk)⟩
    · exact ⟨by rw [h1]; simp, fun k hk => key k (by rw [h1] at hk; simpa [or_comm] using hk)⟩
theorem pw_sound1 [T : PO Q] {S : World → Prop} {seg : List Nat} {plan2 : List PI} (hs : Region.noSelect ops = true) : ∀ (plan : List PI) (listed : Array Bool) (a : Act) (w : World), planOk1 ops seg plan2 listed plan = true → PW P ops (cutK P ops Q plan2) S plan a w → wpSeg P ops Q S seg (wpAny P .any ops Q (planLen plan2)) (planLen plan) listed a w
  | [], listed, a, w, hp, h => by
    simp only [planOk1, Bool.and_eq_true, List.all_eq_true] at hp
    obtain ⟨S', hS', h⟩ := h
    exact ⟨hp.1, wpAny_of_held _ _ _ _ (pw_sound hs plan2 _ _ _ hp.2 h)⟩
  | .rd i j :: rest, listed, a, w, hp, h => by simp [planOk1] at hp
  | .tree t :: rest, listed, a, w, hp, h => by
    show wpSeg P ops Q S seg _ (planLen rest + t.n) listed a w
    exact pwt_sound1 (fun l a w hl hK => pw_sound1 hs rest l a w hl hK) t listed a w hp h
  | .mk i true :: rest, listed, a, w, hp, h => by
    obtain ⟨o, v, ho, hy, hS, hr⟩ := h
    simp only [planOk1, if_true, Bool.and_eq_true, depsOk, List.all_eq_true, Bool.or_eq_true] at hp
    obtain ⟨⟨⟨h1, h2⟩, h3, h4⟩, h5⟩ := hp
    refine wpSeg_first ho (Region.noSelect_spec hs) (fun c a w h => T.ok c a _ _ w h) (by simpa using h3) (fun j oj hoj hjs => ?_) (planLen rest) listed a w (Region.free_spec ho h2) (by simpa using h1) hy hS (pw_sound1 hs rest _ _ _ h5 hr)
    have := h4 j (by simpa using (Array.getElem?_eq_some_iff.1 hoj).1)
    rcases this with h | h
    · exact absurd (by simpa using h) hjs
    · rw [hoj] at h
      dsimp only at h
      rw [← Array.any_toList, List.any_eq_true] at h
      obtain ⟨e, h1, h2⟩ := h
      simp only [Bool.and_eq_true, beq_iff_eq] at h2
      exact ⟨e, by simpa using h1, h2.1, h2.2⟩
  | .mk i false :: rest, listed, a, w, hp, h => by
    simp only [planOk1, Bool.and_eq_true, Bool.false_eq_true, if_false] at hp
    have e : Region.ready .any ops listed = [i] := by simpa using hp.1.2
    refine ⟨by rw [e]; simp, fun j hj => ?_⟩
    rw [e] at hj
    obtain rfl : j = i := by simpa using hj
    exact ⟨by simpa using hp.1.1, wpOp_mono (fun a' w' ⟨h1, h2⟩ => ⟨h1, pw_sound1 hs rest _ _ _ hp.2 h2⟩) (wpOp_cutK h)⟩
/-- two plans, one behind the other: Lk holds during the first -/
theorem p_begin2 [T : PO Q] {id : Nat} {l : List Oper} (plan1 plan2 : List PI) (Lk : List HP) (hm : (P.follows .mixedOrders && Region.noSelect l.toArray && planOk1 l.toArray (segOf plan1) plan2 (Array.replicate l.toArray.size false) plan1 && (planLen plan2 + planLen plan1 == l.toArray.size)) = true)
    (h : RP P w0 S0 n l.toArray (cutK P l.toArray Q plan2) Lk plan1 F L) : Reach w0 S0 n F L ((Code.region id l.toArray true).wp P Q) := by
  simp only [Bool.and_eq_true, beq_iff_eq] at hm
  obtain ⟨⟨⟨h1, h2⟩, h3⟩, h4⟩ := hm
  intro a w hf hs
  refine wp_region_any h1 ?_
  have := wpSeg_any _ _ _ _ (pw_sound1 (Q := Q) h2 plan1 _ _ _ h3 (h a _ hf hs.drew))
  rwa [h4] at this
theorem p_cut {plan : List PI} (Lk : List HP) (hL : ∀ w, St w0 S0 L w → St w0 S0 Lk w) (h : RP P w0 S0 n ops Q Lk plan F L) : Reach w0 S0 n F L (cutK P ops Q plan .normal) :=
  fun a w hf hs => ⟨St w0 S0 Lk, hL w hs, h a w hf hs⟩
end
end Go.Sl
end
section
set_option linter.unusedVariables false
namespace Fil
end Fil
namespace Go.Proofs.YtpajjnkmaebhcabGreat
open Go Go.RowKit Go.Sl Fil
set_option maxRecDepth 100000
set_option maxHeartbeats 8000000
set_option linter.unusedVariables false
set_option linter.unusedSimpArgs false
attribute [local irreducible] Code.wp wpList bodyPost wpQuiet Exit.then Exit.inBlock Post wpAnyH wpOp
end Go.Proofs.YtpajjnkmaebhcabGreat
end
section
set_option linter.unusedVariables false
namespace Go.Proofs.YtpajjnkmaebhcabGreat
open Go Go.RowKit Go.Sl Fil
theorem planeIs_ok {n : Int} {v : Value} {es : List E} {vr : Value} {hr0 : List Value} {R : List (List Nat)} {o lab : Nat → Nat} {w : World} (hs : Shp v es.length) (hr : RO w No v (esV es)) (hG : RightG n es) (hR : ROs w No vr hr0 R) (hRot : RotL n.toNat (tn es) R) (hL : Lev n.toNat (nb (tn es)) o lab) : PlaneIs n v vr (planeR n.toNat (tn es) lab R) w := fun w' S' hm =>
  rotPlane_ok n v es vr hr0 R o lab w' hs (hr.fwd hm (fun _ h => h.elim)) hG ⟨hR.shp, hR.len, hR.ro.fwd hm (fun _ h => h.elim), fun i x l h1 h2 => ⟨(hR.kid i x l h1 h2).1, (hR.kid i x l h1 h2).2.fwd hm (fun _ h => h.elim)⟩⟩ hRot hL
set_option maxRecDepth 100000
set_option maxHeartbeats 8000000
set_option linter.unusedVariables false
set_option linter.unusedSimpArgs false
attribute [local irreducible] Code.wp wpList bodyPost wpQuiet Exit.then Exit.inBlock Post wpAnyH wpOp
end Go.Proofs.YtpajjnkmaebhcabGreat
end
section
set_option linter.unusedVariables false
namespace Fil
open Go.Sl
theorem col_right {n : Int} {es : List E} {R : List (List Nat)} {c : List Nat} (hG : RightG n es) (hRot : RotL n.toNat (tn es) R) (hcl : c.length = n.toNat) (h5 : ∀ u, u < n.toNat → c.getD u 0 < 5) (hne : ∀ u, u < n.toNat → ∀ x ∈ rf R u, c.getD u 0 ≠ c.getD x 0) : colK n es (c.map fun k : Nat => (k : Int)) 5 = 0 := by
  have hlo := hG.lo
  have hgd : ∀ u, (c.map fun k : Nat => (k : Int)).getD u 0 = ((c.getD u 0 : Nat) : Int) := fun u => by
    rw [List.getD_eq_getElem?_getD, List.getD_eq_getElem?_getD, List.getElem?_map]
    cases c[u]? <;> rfl
  rw [colK, if_pos (right_iff.2 hG), if_neg (by rw [List.length_map]; omega), if_neg, if_neg]
  · intro h
    obtain ⟨e, he, hs⟩ := List.any_eq_true.1 h
    obtain ⟨q1, q2, q3, q4, -⟩ := hG.ok e he
    have hs := of_decide_eq_true hs
    rw [hgd, hgd] at hs
    have hm : (e.1.toNat, e.2.1.toNat) ∈ tn es := List.mem_map.2 ⟨e, he, rfl⟩
    have h1 : e.2.1.toNat ∈ rf R e.1.toNat := ((hRot.sys hG).ed _ _).2 (.inl hm)
    exact hne e.1.toNat (by omega) _ h1 (by omega)
  · intro h
    obtain ⟨x, hx, hs⟩ := List.any_eq_true.1 h
    obtain ⟨k, hk, rfl⟩ := List.mem_map.1 hx
    obtain ⟨i, hi, rfl⟩ := List.getElem_of_mem hk
    have := h5 i (by omega)
    rw [List.getD_eq_getElem?_getD, List.getElem?_eq_getElem hi, Option.getD_some] at this
    simp only [outC, Bool.or_eq_true, decide_eq_true_eq] at hs
    omega
end Fil
end
section
set_option linter.unusedVariables false
namespace Go.Proofs.YtpajjnkmaebhcabGreat
open Go Go.RowKit Go.Sl Fil
theorem near3 : nearS (tn es3) = fun u => (List.range (3 : Int).toNat).filter (fun v => decide (v ∈ rf R3 u)) := funext fun u => (near_filter right3 rot3 u).symm
theorem greedy3 : greedyR 3 es3 [0, 1, 2] = some [0, 1, 2] := by
  rw [greedyR, if_pos ⟨by decide, by decide⟩, near3]; decide
theorem bad3 : colK 3 es3 [0, 0, 1] 5 = 13 := by decide
set_option maxRecDepth 100000
set_option maxHeartbeats 8000000
set_option linter.unusedVariables false
set_option linter.unusedSimpArgs false
attribute [local irreducible] Code.wp wpList bodyPost wpQuiet Exit.then Exit.inBlock Post wpAnyH wpOp
theorem alive11_ok (w : World) : Calls Tryz.prog 11 #[] w (Post w No (Just (.bool true))) := by
  obtain ⟨o, lab, hL⟩ := lev_ex w right3
  refine enter0 (vs := []) Tryz.func11 rfl Tryz.ntmps11 rfl ?_
  repeat' first
    | refine k_then ?_ | refine c_seq ?_ | refine c_region ?_ | refine s_nil ?_ | refine s_assign (by exact rfl) (by exact rfl) ?_ | fail
  refine o_build [(0, .int .i64 0, [.int .i64 0]), (1, .int .i64 1, [.int .i64 1])] (by exact rfl) (by exact rfl) (by simp [Value.cells]) (by exact rfl) ?_
  refine o_build [(0, .int .i64 0, [.int .i64 0]), (1, .int .i64 2, [.int .i64 2])] (by exact rfl) (by exact rfl) (by simp [Value.cells]) (by exact rfl) ?_
  refine o_build [(0, .int .i64 1, [.int .i64 1]), (1, .int .i64 2, [.int .i64 2])] (by exact rfl) (by exact rfl) (by simp [Value.cells]) (by exact rfl) ?_
  refine o_mk [.agg (eV (0, 1, 0)).toArray, .agg (eV (0, 2, 0)).toArray, .agg (eV (1, 2, 0)).toArray] (by exact rfl) (by exact rfl) rfl ?_ ?_ (by simp) fun v hv => ?_
  · simp [Value.cells, eV]
  · simp
  rw [show ([Value.agg (eV (0, 1, 0)).toArray, .agg (eV (0, 2, 0)).toArray, .agg (eV (1, 2, 0)).toArray].flatMap fun u => u.cells.toList) = esV es3 from rfl]
  refine o_build [(0, .int .i64 3, [.int .i64 3]), (1, v, [v])] (by exact rfl) (by exact rfl) (by
    intro q hq
    simp only [List.mem_cons, List.not_mem_nil, or_false] at hq
    rcases hq with rfl | rfl
    · rfl
    · exact one_cells hv.one) (by exact rfl) ?_
  repeat' first
    | refine o_alloc (by exact rfl) (fun b => ?_) | fail
  refine o_stk_box (i := 0) (us := [.int .i64 3, v]) (by exact rfl) (by exact rfl) (by exact rfl) (by exact rfl) (by exact rfl) (by
    intro u hu
    simp only [List.mem_cons, List.not_mem_nil, or_false] at hu
    rcases hu with rfl | rfl
    · rfl
    · exact hv.one) (by simp [Value.cells]) ?_
  repeat' first
    | refine k_then ?_ | refine c_seq ?_ | refine c_region ?_ | refine s_nil ?_ | refine s_ldk_box (by exact rfl) (by exact rfl) (by exact .head _) (by exact rfl) (by exact rfl) ?_ | fail
  refine o_mk [.int .i64 0, .int .i64 1, .int .i64 2] (by exact rfl) (by exact rfl) rfl ?_ ?_ (by simp) fun vq hvq => ?_
  · simp [Value.cells]
  · simp
  rw [show ([Value.int .i64 0, .int .i64 1, .int .i64 2].flatMap fun u => u.cells.toList) = iV [0, 1, 2] from rfl]
  have hvq3 : Shp vq ([0, 1, 2] : List Int).length := hvq
  refine o_call (by exact rfl) (by exact rfl) (fun w h => ColGreedy_ok 3 v vq es3 [0, 1, 2] w hv (ro_own h (by exact .tail _ (.tail _ (.head _)))) (by decide) hvq3 (ro_own h (.head _)) (by omega)) ?_
  rintro _ _ hh
  rw [greedy3] at hh
  obtain ⟨vc, rfl, -, rfl⟩ := hh
  refine know_row (v := vc) (.head _) fun hvc _ => ?_
  repeat' first
    | refine k_then ?_ | refine c_seq ?_ | refine c_region ?_ | refine s_nil ?_ | refine s_move (by exact rfl) (by exact rfl) ?_ | refine s_assign (by exact rfl) (by exact rfl) ?_ | refine s_extract (by exact rfl) (by exact rfl) (by exact rfl) ?_ | refine s_ldk_box (by exact rfl) (by exact rfl) (by exact .tail _ (.tail _ (.head _))) (by exact rfl) (by exact rfl) ?_ | fail
  refine o_mk [.int .i64 1, .int .i64 2] (by exact rfl) (by exact rfl) rfl ?_ ?_ (by simp) fun v0 hv0 => ?_
  · simp [Value.cells]
  · simp
  refine o_mk [.int .i64 2, .int .i64 0] (by exact rfl) (by exact rfl) rfl ?_ ?_ (by simp) fun v1 hv1 => ?_
  · simp [Value.cells]
  · simp
  refine o_mk [.int .i64 0, .int .i64 1] (by exact rfl) (by exact rfl) rfl ?_ ?_ (by simp) fun v2 hv2 => ?_
  · simp [Value.cells]
  · simp
  refine o_mk [v0, v1, v2] (by exact rfl) (by exact rfl) rfl ?_ ?_ (by simp) fun vr hvr => ?_
  · intro u hu
    simp only [List.mem_cons, List.not_mem_nil, or_false] at hu
    rcases hu with rfl | rfl | rfl
    · rw [← Array.length_toList, one_cells hv0.one]; rfl
    · rw [← Array.length_toList, one_cells hv1.one]; rfl
    · rw [← Array.length_toList, one_cells hv2.one]; rfl
  · simp
  rw [show ([v0, v1, v2].flatMap fun u => u.cells.toList) = [v0, v1, v2] from by simp [one_cells hv0.one, one_cells hv1.one, one_cells hv2.one]]
  skip
  refine c_star0 ?_
  refine c_pick [4, 0, 0, 0, 0, 0, 0, 0, 0] (by exact rfl) ?_
  refine c_pushk 0 (by exact rfl) ?_
  refine c_pick [3, 0, 0, 0, 0, 0, 0, 0] (by exact rfl) ?_
  refine c_pushk 0 (by exact rfl) ?_
  refine c_pick [2, 0, 0, 0, 0, 0, 0] (by exact rfl) ?_
  refine c_pushk 0 (by exact rfl) ?_
  have hros : ∀ {L : List HP} {w1 : World}, rowHP vr 28 1 3 [v0, v1, v2] ∈ L → starHP (kids rowN [v0, v1, v2] R3) ∈ L → St w No L w1 → ROs w1 No vr [v0, v1, v2] R3 := fun h1 h2 h => ros_own h h1 rfl h2
  have hpl : planeR (3 : Int).toNat (tn es3) lab R3 = 0 := by rw [planeR, euler3 hL]; decide
  refine o_call (by exact rfl) (by exact rfl) (fun w h => Five_ok 3 v es3 vr [v0, v1, v2] R3 o lab w hv (ro_own h (by exact .tail _ (.tail _ (.tail _ (.tail _ (.tail _ (.head _))))))) right3 (hros (by exact .tail _ (.head _)) (by exact .head _) h) rot3 hL (hpl ▸ planeIs_ok hv (ro_own h (by exact .tail _ (.tail _ (.tail _ (.tail _ (.tail _ (.head _))))))) right3 (hros (by exact .tail _ (.head _)) (by exact .head _) h) rot3 hL) hpl (by omega)) ?_
  rintro _ _ ⟨vd, cd, rfl, hcl, hc5, hcne, rfl⟩
  have hck := col_right right3 rot3 hcl hc5 hcne
  refine know_row (v := vd) (.head _) fun hvd _ => ?_
  repeat' first
    | refine k_then ?_ | refine c_seq ?_ | refine c_region ?_ | refine s_nil ?_ | refine s_move (by exact rfl) (by exact rfl) ?_ | refine s_assign (by exact rfl) (by exact rfl) ?_ | refine s_eql (by exact rfl) (by exact rfl) (by exact rfl) ?_ | refine s_extract (by exact rfl) (by exact rfl) (by exact rfl) ?_ | (refine g_case (by exact rfl) (by exact rfl) (fun h => ?_) (fun h => ?_) <;> try (exfalso; omega)) | refine w_move (by exact rfl) (by exact rfl) (by exact rfl) (by exact rfl) ?_ | refine g_on (by exact rfl) (by exact rfl) ?_ | fail
  refine o_mk [.int .i64 0, .int .i64 1, .int .i64 2] (by exact rfl) (by exact rfl) rfl ?_ ?_ (by simp) fun vp hvp => ?_
  · simp [Value.cells]
  · simp
  rw [show ([Value.int .i64 0, .int .i64 1, .int .i64 2].flatMap fun u => u.cells.toList) = iV [0, 1, 2] from rfl]
  have hvp3 : Shp vp ([0, 1, 2] : List Int).length := hvp
  have hvc3 : Shp vc ([0, 1, 2] : List Int).length := hvc
  repeat' first
    | refine g_on (by exact rfl) (by exact rfl) ?_ | fail
  refine s_call (by exact rfl) (by exact rfl) (fun w h => Ints_ok vc vp [0, 1, 2] [0, 1, 2] w hvc3 hvp3 (ro_own h (by exact .tail _ (.tail _ (.tail _ (.tail _ (.head _)))))) (ro_own h (by exact .head _))) ?_
  rw [decide_eq_true (rfl : ([0, 1, 2] : List Int) = [0, 1, 2])]
  repeat' first
    | refine s_move (by exact rfl) (by exact rfl) ?_ | refine s_pick_t (by exact rfl) (by exact rfl) (by exact rfl) ?_ | (refine g_case (by exact rfl) (by exact rfl) (fun h => ?_) (fun h => ?_) <;> try (exfalso; omega)) | refine w_move (by exact rfl) (by exact rfl) (by exact rfl) (by exact rfl) ?_ | refine w_eql (by exact rfl) (by exact rfl) (by exact rfl) (by exact rfl) (by exact rfl) ?_ | refine w_ldk_box (by exact rfl) (by exact rfl) (by exact rfl) (by exact rfl) (by exact .tail _ (.tail _ (.tail _ (.tail _ (.tail _ (.tail _ (.head _))))))) (by exact rfl) (by exact rfl) ?_ | refine g_on (by exact rfl) (by exact rfl) ?_ | fail
  refine s_call (by exact rfl) (by exact rfl) (fun w h => ColCheck_ok 3 v vd es3 (cd.map fun k : Nat => (k : Int)) 5 w hv (ro_own h (by exact .tail _ (.tail _ (.tail _ (.tail _ (.tail _ (.tail _ (.tail _ (.head _))))))))) (by decide) (by rw [List.length_map, hcl]; exact hvd) (by rw [← nV_iV]; exact ro_own h (by exact .tail _ (.head _)))) ?_
  rw [hck]
  repeat' first
    | refine s_move (by exact rfl) (by exact rfl) ?_ | refine s_pick_t (by exact rfl) (by exact rfl) (by exact rfl) ?_ | (refine g_case (by exact rfl) (by exact rfl) (fun h => ?_) (fun h => ?_) <;> try (exfalso; omega)) | refine w_eql (by exact rfl) (by exact rfl) (by exact rfl) (by exact rfl) (by exact rfl) ?_ | refine w_ldk_box (by exact rfl) (by exact rfl) (by exact rfl) (by exact rfl) (by exact .tail _ (.tail _ (.tail _ (.tail _ (.tail _ (.tail _ (.head _))))))) (by exact rfl) (by exact rfl) ?_ | refine g_on (by exact rfl) (by exact rfl) ?_ | fail
  refine o_mk [.int .i64 0, .int .i64 0, .int .i64 1] (by exact rfl) (by exact rfl) rfl ?_ ?_ (by simp) fun vz hvz => ?_
  · simp [Value.cells]
  · simp
  rw [show ([Value.int .i64 0, .int .i64 0, .int .i64 1].flatMap fun u => u.cells.toList) = iV [0, 0, 1] from rfl]
  have hvz3 : Shp vz ([0, 0, 1] : List Int).length := hvz
  repeat' first
    | refine g_on (by exact rfl) (by exact rfl) ?_ | fail
  refine s_call (by exact rfl) (by exact rfl) (fun w h => ColCheck_ok 3 v vz es3 [0, 0, 1] 5 w hv (ro_own h (by exact .tail _ (.tail _ (.tail _ (.tail _ (.tail _ (.tail _ (.tail _ (.tail _ (.head _)))))))))) (by decide) hvz3 (ro_own h (by exact .head _))) ?_
  rw [bad3]
  repeat' first
    | refine k_then ?_ | refine s_nil ?_ | refine s_assign (by exact rfl) (by exact rfl) ?_ | refine s_pick_t (by exact rfl) (by exact rfl) (by exact rfl) ?_ | refine c_ret ?_ | refine w_eql (by exact rfl) (by exact rfl) (by exact rfl) (by exact rfl) (by exact rfl) ?_ | fail
  refine ret1 [] rfl rfl (by exact rfl) ⟨rfl, rfl⟩
end Go.Proofs.YtpajjnkmaebhcabGreat
end
section
set_option linter.unusedVariables false
namespace Fil
theorem Fs.len {G : Nat × Nat → Nat × Nat} {ds : List (Nat × Nat)} {out : List (List (Nat × Nat))} (h : Fs G ds out) : out.flatten.length ≤ ds.length ∧ out.length ≤ out.flatten.length :=
  ⟨sub_length h.nd h.sub, flat_le fun l hl => (h.cy l hl).1⟩
theorem Fs.all {G : Nat × Nat → Nat × Nat} {ds : List (Nat × Nat)} {n : Nat} (hi : ∀ a ∈ ds, ∀ b ∈ ds, G a = G b → a = b) (hm : ∀ a ∈ ds, G a ∈ ds) (hn : ds.length ≤ n) (l : List (Nat × Nat)) (hl : ∀ z ∈ l, z ∈ ds) : Fs G ds (l.foldl (facesStep G n) []) :=
  (Fs.fold hi hm hn l [] ⟨by simp, by simp, by simp⟩ hl).1
end Fil
namespace Go.Proofs.YtpajjnkmaebhcabGreat
open Go Go.RowKit Go.Sl Fil
set_option maxRecDepth 100000
set_option maxHeartbeats 8000000
set_option linter.unusedVariables false
set_option linter.unusedSimpArgs false
attribute [local irreducible] Code.wp wpList bodyPost wpQuiet Exit.then Exit.inBlock Post wpAnyH wpOp
theorem in_ok (v : Value) (l : List (Nat × Nat)) (d : Nat × Nat) (w : World) (hs : Shp v l.length) (hr : RO w No v (dsV l)) :
    Calls Tryz.prog 91 #[v, .agg #[.int .i64 (d.1 : Int), .int .i64 (d.2 : Int)]] w (Post w No (Just (.bool (decide (d ∈ l))))) := by
  have hm := hs.1
  simp only [maxLen] at hm
  refine enter0 (vs := [_, _]) Tryz.func91 rfl Tryz.ntmps91 rfl ?_
  repeat' first
    | refine k_then ?_ | refine c_seq ?_ | refine c_region ?_ | refine s_nil ?_ | refine s_assign (by exact rfl) (by exact rfl) ?_ | refine o_box (by exact rfl) (by exact rfl) (fun b => ?_) | refine c_block ?_
  refine c_loop (fun k : Nat => k ≤ l.length ∧ ∀ z ∈ l.take k, z ≠ d) (fun k => [(0, v), (3, .pointer (some ⟨b, 0, none⟩)), (4, .bool false), (5, .int .i64 (k : Int))]) (fun _ => [boxHP b 100 (Value.agg #[.int .i64 (d.1 : Int), .int .i64 (d.2 : Int)]).cells.toList]) (fun k => l.length - k) 0 [0] ⟨Nat.zero_le _, by simp⟩ rfl ⟨rfl, rfl, rfl, rfl, trivial⟩ ?_
  rintro k ⟨hk, hq⟩
  by_cases hlt : k < l.length
  · obtain ⟨z, hz⟩ : ∃ z, l[k]? = some z := ⟨_, List.getElem?_eq_getElem hlt⟩
    have hE := dsV_at hz
    repeat' first
      | refine k_then ?_ | refine c_seq ?_ | refine c_region ?_ | refine s_nil ?_ | refine s_move (by exact rfl) (by exact rfl) ?_ | refine s_lss (by exact rfl) (by exact rfl) (by exact rfl) ?_ | refine s_len (by exact rfl) (by exact rfl) (by assumption) ?_ | refine c_block ?_ | refine c_skip ?_ | (refine c_cond_p (by exact rfl) (fun h => ?_) (fun h => ?_) <;> try (exfalso; omega))
    refine p_begin0 [(0, true), (1, true), (2, true), (3, true), (4, true), (5, true)] (by kernel_rfl) ?_
    repeat' first
      | (refine p_at (by exact rfl) ?_
         first
          | refine t_move (by exact rfl) (by exact rfl) (by exact fun _ h => h) ?_ | refine t_idx (by exact rfl) (by exact rfl) (by exact rfl) (by assumption) (by first | assumption | omega) (by exact fun _ h => h) ?_ | refine t_ldk_box (by exact rfl) (by exact rfl) (by exact .head _) (by exact rfl) (by exact rfl) (by exact fun _ h => h) ?_ | refine t_ldk_ro (by exact rfl) (by exact rfl) (by assumption) (by decide) (by assumption) (by exact rfl) (by exact fun _ h => h) ?_)
    refine p_at (by exact rfl) ?_
    refine t_eql2 (by exact rfl) (by exact rfl) (by exact rfl) (by exact fun _ h => h) ?_
    repeat' first
      | refine p_nil ?_
    repeat' first
      | refine k_then ?_ | refine c_seq ?_ | refine c_region ?_ | refine s_nil ?_ | refine s_move (by exact rfl) (by exact rfl) ?_ | refine s_assign (by exact rfl) (by exact rfl) ?_ | refine s_add (by exact rfl) (by exact rfl) (by exact rfl) (by omega) ?_ | refine c_skip ?_ | refine c_ret ?_ | refine k_then_ret ?_ | refine k_blk ?_ | refine k_blk_ret ?_ | (refine c_cond_p (by exact rfl) (fun h => ?_) (fun h => ?_) <;> try (exfalso; omega))
    · refine ret1 [] rfl rfl rfl ⟨congrArg Value.bool ?_, rfl⟩
      refine (decide_eq_true ?_).symm
      have e : z = d := Prod.ext (by omega) (by omega)
      exact e ▸ List.mem_of_getElem? hz
    · refine c_round (k + 1) [0] (by exact rfl) ⟨rfl, rfl, rfl, rfl, trivial⟩ ⟨by omega, fun y hy => ?_⟩ (by omega)
      rw [List.take_add_one, hz] at hy
      rcases List.mem_append.1 hy with hy | hy
      · exact hq y hy
      · obtain rfl : y = z := by simpa using hy
        intro e
        subst e
        exact h ⟨rfl, rfl⟩
  · repeat' first
      | refine k_then ?_ | refine c_seq ?_ | refine c_region ?_ | refine s_nil ?_ | refine s_move (by exact rfl) (by exact rfl) ?_ | refine s_assign (by exact rfl) (by exact rfl) ?_ | refine s_lss (by exact rfl) (by exact rfl) (by exact rfl) ?_ | refine s_len (by exact rfl) (by exact rfl) (by assumption) ?_ | refine c_exit ?_ | refine c_ret ?_ | refine k_then_exit ?_ | refine k_blk_eq ?_ | (refine c_cond_p (by exact rfl) (fun h => ?_) (fun h => ?_) <;> try (exfalso; omega))
    refine ret1 [] rfl rfl rfl ⟨congrArg Value.bool ?_, rfl⟩
    refine (decide_eq_false fun hd => ?_).symm
    rw [List.take_of_length_le (by omega)] at hq
    exact hq d hd rfl
theorem refFaces_ok (n : Int) (v : Value) (es : List E) (vr : Value) (hr0 : List Value) (R : List (List Nat)) (w : World) (hs : Shp v es.length) (hr : RO w No v (esV es)) (hG : RightG n es) (hR : ROs w No vr hr0 R) (hRot : RotL n.toNat (tn es) R) :
    Calls Tryz.prog 70 #[.agg #[.int .i64 n, v], vr] w (Post w No fun vo L' => ∃ ho : List Value, ho.length = (facesR n.toNat (tn es) R).length ∧ L' = [rowHP vo 101 1 (facesR n.toNat (tn es) R).length ho, starHP (kids rowD ho (facesR n.toNat (tn es) R))]) := by
  have hsr := hR.shp
  have hrr := hR.ro
  have hlo := hG.lo
  have hhi := hG.hi
  have hmany := hG.many
  have hRl := hRot.len
  refine enter0 (vs := [_, _]) Tryz.func70 rfl Tryz.ntmps70 rfl ?_
  repeat' first
    | refine k_then ?_ | refine c_seq ?_ | refine c_region ?_ | refine s_nil ?_ | refine s_assign (by exact rfl) (by exact rfl) ?_ | refine o_box (by exact rfl) (by exact rfl) (fun b => ?_) | refine c_block ?_
  revert b; intro bg
  have hi := all_inj hG hRot
  have hm := all_mem hG hRot
  have hdl := dartsAll_length hG
  have hin : ∀ d ∈ dartsAll n.toNat (tn es), d.1 < n.toNat ∧ d.2 < n.toNat := fun d hd => dart_lt hG hd
  have hdm : ∀ d : Nat × Nat, d ∈ dartsAll n.toNat (tn es) ↔ d.2 ∈ rf R d.1 := fun d => dart_in hG hRot
  have hnx : ∀ d ∈ dartsAll n.toNat (tn es), nextK (intL R) (d.1 : Int) (d.2 : Int) = (((nxt (rf R) d).1 : Int), ((nxt (rf R) d).2 : Int), true) := fun d hd =>
    nextK_nxt (by have := (hin d hd).2; omega) ((hRot.sys hG).sym ((hdm d).1 hd))
  have hnf : ∀ u, ((List.range n.toNat).filter fun v => decide (v ∈ rf R u)).map (fun x => (u, x)) = vc (nearS (tn es)) u := fun u => by rw [near_filter hG hRot, vc]
  have hfR : facesR n.toNat (tn es) R = (dartsOf (nearS (tn es)) (List.range n.toNat)).foldl (facesStep (nxt (rf R)) (2 * es.length + 1)) [] := by rw [facesR, facesL, tn_len, dartsAll]
  have hsub : ∀ u, u ≤ n.toNat → ∀ z ∈ dartsOf (nearS (tn es)) (List.range u), z ∈ dartsAll n.toNat (tn es) := fun u hu z hz => by
    obtain ⟨h1, h2⟩ := mem_darts.1 hz
    exact mem_darts.2 ⟨List.mem_range.2 (by have := List.mem_range.1 h1; omega), h2⟩
  rw [hfR]
  generalize dartsAll n.toNat (tn es) = ds at *
  generalize nxt (rf R) = G at *
  have hFa : ∀ l : List (Nat × Nat), (∀ z ∈ l, z ∈ ds) → Fs G ds (l.foldl (facesStep G (2 * es.length + 1)) []) := fun l hl => Fs.all hi hm (by omega) l hl
  generalize hN : n.toNat = N at *
  have hnN : n = (N : Int) := by omega
  subst hnN
  refine c_nil 100 2 ?_
  refine c_nil 101 1 ?_
  refine c_star0 ?_
  refine c_loop (fun x : Nat × Value × List Value × Value => x.1 ≤ N ∧ x.2.2.1.length = ((dartsOf (nearS (tn es)) (List.range x.1)).foldl (facesStep G (2 * es.length + 1)) []).length)
    (fun x => [(1, vr), (2, .pointer (some ⟨bg, 0, none⟩)), (5, x.2.1), (6, x.2.2.2), (7, .int .i64 (x.1 : Int))])
    (fun x => [rowHP x.2.1 101 1 ((dartsOf (nearS (tn es)) (List.range x.1)).foldl (facesStep G (2 * es.length + 1)) []).length x.2.2.1, starHP (kids rowD x.2.2.1 ((dartsOf (nearS (tn es)) (List.range x.1)).foldl (facesStep G (2 * es.length + 1)) [])),
      rowHP x.2.2.2 100 2 ((dartsOf (nearS (tn es)) (List.range x.1)).foldl (facesStep G (2 * es.length + 1)) []).flatten.length (dsV ((dartsOf (nearS (tn es)) (List.range x.1)).foldl (facesStep G (2 * es.length + 1)) []).flatten), boxHP bg 24 [.int .i64 (N : Int), v]])
    (fun x => N - x.1) (0, .slice none 0 0, [], .slice none 0 0) [1, 0, 0, 0] ⟨Nat.zero_le _, rfl⟩ (by exact rfl) ⟨rfl, rfl, rfl, rfl, rfl, trivial⟩ ?_
  rintro ⟨u, vo, ho, vm⟩ ⟨hu, hol⟩
  dsimp only at hu hol ⊢
  have hFu := hFa _ (hsub u hu)
  have hdsu : dartsOf (nearS (tn es)) (List.range (u + 1)) = dartsOf (nearS (tn es)) (List.range u) ++ vc (nearS (tn es)) u := by rw [List.range_succ, dartsOf, List.flatMap_append]; simp [dartsOf]
  by_cases hlt : u < N
  · obtain ⟨hx, hhx⟩ : ∃ x, hr0[u]? = some x := ⟨_, List.getElem?_eq_getElem (by have := hR.len; omega)⟩
    obtain ⟨l, hl⟩ : ∃ l, R[u]? = some l := ⟨_, List.getElem?_eq_getElem (by omega)⟩
    obtain ⟨hsx, hrx⟩ := hR.kid u hx l hhx hl
    have hgd : rf R u = l := by rw [rf, List.getD_eq_getElem?_getD, hl]; rfl
    have h1' : hr0[u * 1]? = some hx := by rw [Nat.mul_one]; exact hhx
    have hnfu := hnf u
    rw [hgd] at hnfu
    have hPs : ∀ k, ((List.range (k + 1)).filter fun v => decide (v ∈ l)).map (fun x => (u, x)) = ((List.range k).filter fun v => decide (v ∈ l)).map (fun x => (u, x)) ++ if k ∈ l then [(u, k)] else [] := fun k => by
      rw [List.range_succ, List.filter_append, List.map_append]
      by_cases hk : k ∈ l <;> simp [hk]
    have hPm : ∀ k, k < N → k ∈ l → (u, k) ∈ ds := fun k hk hkl => (hdm (u, k)).2 (by rw [hgd]; exact hkl)
    have hFk : ∀ k, k ≤ N → Fs G ds ((((List.range k).filter fun v => decide (v ∈ l)).map (fun x => (u, x))).foldl (facesStep G (2 * es.length + 1)) ((dartsOf (nearS (tn es)) (List.range u)).foldl (facesStep G (2 * es.length + 1)) [])) := fun k hk => by
      rw [← List.foldl_append]
      refine hFa _ fun z hz => ?_
      rcases List.mem_append.1 hz with hz | hz
      · exact hsub u hu z hz
      · obtain ⟨x, hx, rfl⟩ := List.mem_map.1 hz
        obtain ⟨h1, h2⟩ := List.mem_filter.1 hx
        exact hPm x (by have := List.mem_range.1 h1; omega) (by simpa using h2)
    have hO1 : (dartsOf (nearS (tn es)) (List.range (u + 1))).foldl (facesStep G (2 * es.length + 1)) [] = (((List.range N).filter fun v => decide (v ∈ l)).map (fun x => (u, x))).foldl (facesStep G (2 * es.length + 1)) ((dartsOf (nearS (tn es)) (List.range u)).foldl (facesStep G (2 * es.length + 1)) []) := by rw [hdsu, List.foldl_append, hnfu]
    generalize (dartsOf (nearS (tn es)) (List.range u)).foldl (facesStep G (2 * es.length + 1)) [] = X at *
    repeat' first
      | refine k_then ?_ | refine c_seq ?_ | refine c_region ?_ | refine s_nil ?_ | refine s_move (by exact rfl) (by exact rfl) ?_ | refine s_assign (by exact rfl) (by exact rfl) ?_ | refine s_fa (by exact rfl) (by exact rfl) ?_ | refine s_ld_box (by exact rfl) (by exact rfl) (by exact .tail _ (.tail _ (.tail _ (.head _)))) (by exact rfl) ?_ | refine s_lss (by exact rfl) (by exact rfl) (by exact rfl) ?_ | refine c_block ?_ | refine c_skip ?_ | (refine c_cond_p (by exact rfl) (fun h => ?_) (fun h => ?_) <;> try (exfalso; omega))
    refine c_loop (fun x : Nat × Value × List Value × Value => x.1 ≤ N ∧ x.2.2.1.length = ((((List.range x.1).filter fun v => decide (v ∈ l)).map (fun x => (u, x))).foldl (facesStep G (2 * es.length + 1)) X).length)
      (fun x => [(1, vr), (2, .pointer (some ⟨bg, 0, none⟩)), (5, x.2.1), (6, x.2.2.2), (7, .int .i64 (u : Int)), (8, .int .i64 (x.1 : Int))])
      (fun x => [rowHP x.2.1 101 1 ((((List.range x.1).filter fun v => decide (v ∈ l)).map (fun x => (u, x))).foldl (facesStep G (2 * es.length + 1)) X).length x.2.2.1, starHP (kids rowD x.2.2.1 ((((List.range x.1).filter fun v => decide (v ∈ l)).map (fun x => (u, x))).foldl (facesStep G (2 * es.length + 1)) X)),
        rowHP x.2.2.2 100 2 ((((List.range x.1).filter fun v => decide (v ∈ l)).map (fun x => (u, x))).foldl (facesStep G (2 * es.length + 1)) X).flatten.length (dsV ((((List.range x.1).filter fun v => decide (v ∈ l)).map (fun x => (u, x))).foldl (facesStep G (2 * es.length + 1)) X).flatten), boxHP bg 24 [.int .i64 (N : Int), v]])
      (fun x => N - x.1) (0, vo, ho, vm) [0, 0, 0, 0] ⟨Nat.zero_le _, hol⟩ (by exact rfl) ⟨rfl, rfl, rfl, rfl, rfl, rfl, trivial⟩ ?_
    rintro ⟨k, vo2, ho2, vm2⟩ ⟨hk, hol2⟩
    dsimp only at hk hol2 ⊢
    have hF := hFk k hk
    have hF2 := hFk (k + 1)
    rw [hPs k, List.foldl_append] at hF2
    by_cases hkl : k < N
    · have hF2 := hF2 hkl
      have hOk : (((List.range (k + 1)).filter fun v => decide (v ∈ l)).map (fun x => (u, x))).foldl (facesStep G (2 * es.length + 1)) X = (if k ∈ l then [(u, k)] else []).foldl (facesStep G (2 * es.length + 1)) ((((List.range k).filter fun v => decide (v ∈ l)).map (fun x => (u, x))).foldl (facesStep G (2 * es.length + 1)) X) := by rw [hPs k, List.foldl_append]
      have hlen := hF.len
      generalize (((List.range k).filter fun v => decide (v ∈ l)).map (fun x => (u, x))).foldl (facesStep G (2 * es.length + 1)) X = out at *
      refine know_row (v := vm2) (by exact .tail _ (.tail _ (.head _))) fun hvm2 _ => ?_
      repeat' first
        | refine k_then ?_ | refine c_seq ?_ | refine c_region ?_ | refine s_nil ?_ | refine s_move (by exact rfl) (by exact rfl) ?_ | refine s_fa (by exact rfl) (by exact rfl) ?_ | refine s_ld_box (by exact rfl) (by exact rfl) (by exact .tail _ (.tail _ (.tail _ (.head _)))) (by exact rfl) ?_ | refine s_lss (by exact rfl) (by exact rfl) (by exact rfl) ?_ | refine c_block ?_ | refine c_skip ?_ | (refine c_cond_p (by exact rfl) (fun h => ?_) (fun h => ?_) <;> try (exfalso; omega))
      refine o_build (cs := [.int .i64 (u : Int), .int .i64 (k : Int)]) [(0, .int .i64 (u : Int), [.int .i64 (u : Int)]), (1, .int .i64 (k : Int), [.int .i64 (k : Int)])] (by exact rfl) (by exact rfl) (by simp [Value.cells]) (by exact rfl) ?_
      repeat' first
        | refine o_alloc (by exact rfl) (fun b => ?_)
      revert b; intro b9
      refine o_stk_box (i := 0) (us := [.int .i64 (u : Int), .int .i64 (k : Int)]) (by exact rfl) (by exact rfl) (by exact rfl) (by exact rfl) (by exact rfl) (by simp [Value.oneCell']) (by simp [Value.cells]) ?_
      repeat' first
        | refine k_then ?_ | refine c_seq ?_ | refine c_region ?_ | refine s_nil ?_ | refine s_move (by exact rfl) (by exact rfl) ?_ | refine s_idx (by exact rfl) (by exact rfl) (by exact rfl) (by assumption) (by first | assumption | omega) ?_ | refine s_ld_ro (by exact rfl) (by exact rfl) (by assumption) (by assumption) ?_
      refine s_call (by exact rfl) (by exact rfl) (fun w h => HasN_ok hx l k w hsx (ro_old h hrx)) ?_
      by_cases hkin : k ∈ l
      · rw [decide_eq_true hkin]
        rw [if_pos hkin, List.foldl_cons, List.foldl_nil] at hOk hF2
        repeat' first
          | refine s_move (by exact rfl) (by exact rfl) ?_ | refine s_not (by exact rfl) (by exact rfl) ?_ | refine w_move (by exact rfl) (by exact rfl) (by exact rfl) (by exact rfl) ?_ | refine w_ldk_box (by exact rfl) (by exact rfl) (by exact rfl) (by exact rfl) (by exact .head _) (by exact rfl) (by exact rfl) ?_ | refine g_on (by exact rfl) (by exact rfl) ?_
        refine s_call (by exact rfl) (by exact rfl) (fun w h => in_ok vm2 out.flatten (u, k) w hvm2 (ro_own h (by exact .tail _ (.tail _ (.tail _ (.head _)))))) ?_
        by_cases hmet : (u, k) ∈ out.flatten
        · rw [decide_eq_true hmet]
          rw [facesStep, if_pos hmet] at hOk
          repeat' first
            | refine k_then ?_ | refine c_region ?_ | refine s_nil ?_ | refine s_move (by exact rfl) (by exact rfl) ?_ | refine s_assign (by exact rfl) (by exact rfl) ?_ | refine s_add (by exact rfl) (by exact rfl) (by exact rfl) (by omega) ?_ | refine s_pick_f (by exact rfl) (by exact rfl) (by exact rfl) ?_ | refine c_exit ?_ | refine k_then_exit ?_ | refine k_blk_eq ?_ | refine c_cond_t (by exact rfl) ?_
          refine c_round (k + 1, vo2, ho2, vm2) [1, 1, 1, 1] (by dsimp only; rw [hOk]; rfl) ⟨rfl, rfl, rfl, rfl, rfl, rfl, trivial⟩ ⟨by dsimp only; omega, by dsimp only; rw [hOk]; exact hol2⟩ (by dsimp only; omega)
        · rw [decide_eq_false hmet]
          rw [facesStep, if_neg hmet] at hOk hF2
          have hstart := hF.start (hPm k hkl hkin) hmet
          repeat' first
            | refine k_then ?_ | refine c_seq ?_ | refine c_region ?_ | refine s_nil ?_ | refine s_assign (by exact rfl) (by exact rfl) ?_ | refine s_pick_f (by exact rfl) (by exact rfl) (by exact rfl) ?_ | refine s_ldk_box (by exact rfl) (by exact rfl) (by exact .head _) (by exact rfl) (by exact rfl) ?_ | refine o_alloc (by exact rfl) (fun b => ?_) | refine c_skip ?_ | refine c_cond_f (by exact rfl) ?_
          refine o_stk_box (i := 0) (us := [.int .i64 (u : Int), .int .i64 (k : Int)]) (by exact rfl) (by exact rfl) (by exact rfl) (by exact rfl) (by exact rfl) (by simp [Value.oneCell']) (by simp [Value.cells]) ?_
          repeat' first
            | refine k_then ?_ | refine s_nil ?_ | refine c_block ?_
          refine c_nil 100 2 ?_
          refine c_loop (fun x : List (Nat × Nat) × (Nat × Nat) × Value × Nat => InF G ds out (u, k) x.1 x.2.1 ∧ (x.1 = [] ∨ x.2.1 ≠ (u, k)))
            (fun x => [(1, vr), (2, .pointer (some ⟨bg, 0, none⟩)), (5, vo2), (6, vm2), (7, .int .i64 (u : Int)), (8, .int .i64 (k : Int)), (9, .pointer (some ⟨b9, 0, none⟩)), (10, x.2.2.1), (11, .pointer (some ⟨x.2.2.2, 0, none⟩))])
            (fun x => [rowHP x.2.2.1 100 2 x.1.length (dsV x.1), boxHP x.2.2.2 100 [.int .i64 (x.2.1.1 : Int), .int .i64 (x.2.1.2 : Int)], boxHP b9 100 [.int .i64 (u : Int), .int .i64 (k : Int)], rowHP vo2 101 1 out.length ho2, starHP (kids rowD ho2 out), rowHP vm2 100 2 out.flatten.length (dsV out.flatten), boxHP bg 24 [.int .i64 (N : Int), v]])
            (fun x => ds.length - x.1.length) ([], (u, k), .slice none 0 0, b) [0, 0, 0, 0, 0, 0, 0] ⟨hstart, .inl rfl⟩ (by exact rfl) ⟨rfl, rfl, rfl, rfl, rfl, rfl, rfl, rfl, rfl, trivial⟩ ?_
          rintro ⟨f, x, vf, bx⟩ ⟨hI, hne⟩
          dsimp only at hI hne ⊢
          have hxm := hI.mem
          obtain ⟨hxf, hI2⟩ := hI.more hi hm hF.cy hF.sub hne
          have hroom := hI.room hxf
          have hxin := hin x hxm
          have hgx := hin (G x) (hm x hxm)
          refine know_row (v := vf) (.head _) fun hvf _ => ?_
          repeat' first
            | refine k_then ?_ | refine c_seq ?_ | refine c_region ?_ | refine s_nil ?_ | refine s_move (by exact rfl) (by exact rfl) ?_ | refine s_fa (by exact rfl) (by exact rfl) ?_ | refine s_ld_box (by exact rfl) (by exact rfl) (by exact .tail _ (.tail _ (.tail _ (.tail _ (.tail _ (.tail _ (.head _))))))) (by exact rfl) ?_ | refine s_leq (by exact rfl) (by exact rfl) (by exact rfl) ?_ | refine s_mul (by exact rfl) (by exact rfl) (by exact rfl) (by omega) ?_ | refine s_len (by exact rfl) (by exact rfl) (by assumption) ?_ | refine s_ldk_box (by exact rfl) (by exact rfl) (by exact .tail _ (.head _)) (by exact rfl) (by exact rfl) ?_ | refine c_block ?_ | refine c_skip ?_ | (refine c_cond_p (by exact rfl) (fun h => ?_) (fun h => ?_) <;> try (exfalso; omega))
          refine o_mk [.agg #[.int .i64 (x.1 : Int), .int .i64 (x.2 : Int)]] (by exact rfl) (by exact rfl) rfl ?_ ?_ (by simp) fun vt hvt => ?_
          · simp [Value.cells]
          · simp
          rw [show ([Value.agg #[.int .i64 (x.1 : Int), .int .i64 (x.2 : Int)]].flatMap fun u => u.cells.toList) = dsV [x] from rfl]
          skip
          refine o_append_row (i := 1) (by exact rfl) (by exact rfl) (by exact rfl) (by exact rfl) (by exact .head _) (by exact rfl) (by intro u hu; exact dsV_one _ u hu) ?_ fun vf2 hvf2 => ?_
          · show (f.length + 1) * 16 ≤ _
            omega
          repeat' first
            | refine k_then ?_ | refine c_seq ?_ | refine c_region ?_ | refine s_nil ?_ | refine s_move (by exact rfl) (by exact rfl) ?_ | refine s_assign (by exact rfl) (by exact rfl) ?_ | refine s_ldk_box (by exact rfl) (by exact rfl) (by exact .tail _ (.tail _ (.head _))) (by exact rfl) (by exact rfl) ?_
          refine s_call (by exact rfl) (by exact rfl) (fun w h => refNext_ok vr hr0 (intL R) x.1 x.2 w (rosI_old h hR.int)) ?_
          rw [hnx x hxm]
          repeat' first
            | refine s_move (by exact rfl) (by exact rfl) ?_ | refine s_extract (by exact rfl) (by exact rfl) (by exact rfl) ?_
          refine o_stk_box (i := 2) (us := [.int .i64 ((G x).1 : Int), .int .i64 ((G x).2 : Int)]) (by exact rfl) (by exact rfl) (by exact rfl) (by exact rfl) (by exact rfl) (by simp [Value.oneCell']) (by simp [Value.cells, putL]) ?_
          repeat' first
            | refine k_then ?_ | refine c_seq ?_ | refine c_region ?_ | refine s_nil ?_ | refine s_ldk_box (by exact rfl) (by exact rfl) (by first | exact .tail _ (.tail _ (.head _)) | exact .tail _ (.tail _ (.tail _ (.head _)))) (by exact rfl) (by exact rfl) ?_
          refine s_eql2 (by exact rfl) (by exact rfl) (by exact rfl) ?_
          repeat' first
            | refine k_then ?_ | refine c_seq ?_ | refine c_region ?_ | refine s_nil ?_ | refine s_move (by exact rfl) (by exact rfl) ?_ | refine s_ldk_box (by exact rfl) (by exact rfl) (by exact .tail _ (.tail _ (.head _))) (by exact rfl) (by exact rfl) ?_ | refine o_alloc (by exact rfl) (fun b => ?_) | refine c_skip ?_ | refine c_exit ?_ | refine k_then_exit ?_ | refine k_blk ?_ | refine k_blk_eq ?_ | refine k_blk_ne (by exact rfl) ?_ | (refine c_cond_p (by exact rfl) (fun h => ?_) (fun h => ?_) <;> try (exfalso; omega))
          · have e : G x = (u, k) := Prod.ext (by dsimp only; omega) (by dsimp only; omega)
            rw [e] at hI2
            have htr : tr G (u, k) (2 * es.length + 1) (u, k) = f ++ [x] := hI2.tr (by simp) (by rw [List.length_append]; simp only [List.length_cons, List.length_nil]; omega)
            rw [htr] at hOk hF2
            have hF2l := hF2.len
            rw [List.flatten_append, List.length_append, List.length_append] at hF2l
            simp only [List.flatten_cons, List.flatten_nil, List.append_nil, List.length_append, List.length_cons, List.length_nil] at hF2l
            refine o_append_row (i := 6) (by exact rfl) (by exact rfl) (by exact rfl) (by exact rfl) (by exact .tail _ (.head _)) ?_ ?_ ?_ fun vm3 hvm3 => ?_
            · rw [List.length_append, dsV_length, dsV_length]; simp only [List.length_cons, List.length_nil]; omega
            · intro u hu
              rcases List.mem_append.1 hu with hu | hu
              · exact dsV_one _ u hu
              · exact dsV_one _ u hu
            · show (out.flatten.length + (f.length + 1)) * 16 ≤ _
              omega
            repeat' first
              | refine k_then ?_ | refine c_region ?_ | refine s_nil ?_ | refine s_move (by exact rfl) (by exact rfl) ?_ | refine s_assign (by exact rfl) (by exact rfl) ?_
            refine o_mk [vf2] (by exact rfl) (by exact rfl) rfl ?_ ?_ (by simp) fun vt2 hvt2 => ?_
            · intro u hu
              obtain rfl : u = vf2 := by simpa using hu
              rw [← Array.length_toList, one_cells hvf2.one]; rfl
            · simp
            rw [show ([vf2].flatMap fun u => u.cells.toList) = [vf2] from by simp [one_cells hvf2.one]]
            skip
            refine o_append_row (i := 5) (by exact rfl) (by exact rfl) (by exact rfl) (by exact rfl) (by exact .head _) (by exact rfl) (by simp [hvf2.one]) ?_ fun vo3 hvo3 => ?_
            · show (out.length + 1) * 24 ≤ _
              omega
            repeat' first
              | refine k_then ?_ | refine c_region ?_ | refine s_nil ?_ | refine s_move (by exact rfl) (by exact rfl) ?_ | refine s_assign (by exact rfl) (by exact rfl) ?_ | refine s_add (by exact rfl) (by exact rfl) (by exact rfl) (by omega) ?_ | refine k_blk ?_
            refine c_pick [2, 4, 4, 4, 4] (by exact rfl) ?_
            refine c_pushk 1 (by exact rfl) ?_
            refine c_round (k + 1, vo3, ho2 ++ [vf2], vm3) [0, 0, 0, 0] ?_ ⟨rfl, rfl, rfl, rfl, rfl, rfl, trivial⟩ ⟨by dsimp only; omega, by dsimp only; rw [hOk, List.length_append, List.length_append, hol2]; rfl⟩ (by dsimp only; omega)
            dsimp only
            rw [hOk, kids_append hol2, List.flatten_append, show [f ++ [x]].flatten = f ++ [x] by simp, dsV_append, dsV_append, List.length_append, List.length_append, List.length_append, show rowD vf2 (f ++ [x]) = rowHP vf2 100 2 (f.length + 1) (dsV f ++ dsV [x]) from by rw [rowD, dsV_append, List.length_append]; rfl]
            rfl
          · have e : G x ≠ (u, k) := fun e => h (by rw [e]; exact ⟨rfl, rfl⟩)
            refine o_stk_box (i := 0) (us := [.int .i64 ((G x).1 : Int), .int .i64 ((G x).2 : Int)]) (by exact rfl) (by exact rfl) (by exact rfl) (by exact rfl) (by exact rfl) (by simp [Value.oneCell']) (by simp [Value.cells, putL]) ?_
            repeat' first
              | refine k_then ?_ | refine s_nil ?_
            refine c_round (f ++ [x], G x, vf2, b) [2, 0, 2, 2, 2, 2, 2] ?_ ⟨rfl, rfl, rfl, rfl, rfl, rfl, rfl, rfl, rfl, trivial⟩ ⟨hI2, .inr e⟩ (by dsimp only; rw [List.length_append]; simp only [List.length_cons, List.length_nil]; omega)
            dsimp only
            rw [dsV_append, List.length_append]
            rfl
      · rw [decide_eq_false hkin]
        rw [if_neg hkin, List.foldl_nil] at hOk
        repeat' first
          | refine k_then ?_ | refine c_region ?_ | refine s_nil ?_ | refine s_move (by exact rfl) (by exact rfl) ?_ | refine s_assign (by exact rfl) (by exact rfl) ?_ | refine s_add (by exact rfl) (by exact rfl) (by exact rfl) (by omega) ?_ | refine s_not (by exact rfl) (by exact rfl) ?_ | refine s_pick_t (by exact rfl) (by exact rfl) (by exact rfl) ?_ | refine c_exit ?_ | refine k_then_exit ?_ | refine k_blk_eq ?_ | refine c_cond_t (by exact rfl) ?_ | refine g_skip (by exact rfl) (by exact rfl) (by exact rfl) (by exact rfl) ?_
        refine c_round (k + 1, vo2, ho2, vm2) [1, 1, 1, 1] (by dsimp only; rw [hOk]; rfl) ⟨rfl, rfl, rfl, rfl, rfl, rfl, trivial⟩ ⟨by dsimp only; omega, by dsimp only; rw [hOk]; exact hol2⟩ (by dsimp only; omega)
    · repeat' first
        | refine k_then ?_ | refine c_seq ?_ | refine c_region ?_ | refine s_nil ?_ | refine s_move (by exact rfl) (by exact rfl) ?_ | refine s_assign (by exact rfl) (by exact rfl) ?_ | refine s_fa (by exact rfl) (by exact rfl) ?_ | refine s_ld_box (by exact rfl) (by exact rfl) (by exact .tail _ (.tail _ (.tail _ (.head _)))) (by exact rfl) ?_ | refine s_lss (by exact rfl) (by exact rfl) (by exact rfl) ?_ | refine s_add (by exact rfl) (by exact rfl) (by exact rfl) (by omega) ?_ | refine c_exit ?_ | refine k_then_exit ?_ | refine k_blk ?_ | refine k_blk_eq ?_ | (refine c_cond_p (by exact rfl) (fun h => ?_) (fun h => ?_) <;> try (exfalso; omega))
      obtain rfl : k = N := by omega
      refine c_round (u + 1, vo2, ho2, vm2) [0, 0, 0, 0] (by dsimp only; rw [hO1]; rfl) ⟨rfl, rfl, rfl, rfl, rfl, trivial⟩ ⟨by dsimp only; omega, by dsimp only; rw [hO1]; exact hol2⟩ (by dsimp only; omega)
  · repeat' first
      | refine k_then ?_ | refine c_seq ?_ | refine c_region ?_ | refine s_nil ?_ | refine s_move (by exact rfl) (by exact rfl) ?_ | refine s_assign (by exact rfl) (by exact rfl) ?_ | refine s_fa (by exact rfl) (by exact rfl) ?_ | refine s_ld_box (by exact rfl) (by exact rfl) (by exact .tail _ (.tail _ (.tail _ (.head _)))) (by exact rfl) ?_ | refine s_lss (by exact rfl) (by exact rfl) (by exact rfl) ?_ | refine c_exit ?_ | refine c_ret ?_ | refine k_then_exit ?_ | refine k_blk_eq ?_ | (refine c_cond_p (by exact rfl) (fun h => ?_) (fun h => ?_) <;> try (exfalso; omega))
    obtain rfl : u = N := by omega
    refine ret1 [0, 0] rfl rfl rfl ⟨ho, hol, rfl⟩
/-- lists of darts that are read -/
structure ROd (w : World) (S : FS) (v : Value) (hs : List Value) (F : List (List (Nat × Nat))) : Prop where
  shp : Shp v F.length
  len : hs.length = F.length
  ro : RO w S v hs
  kid : ∀ (i : Nat) h l, hs[i]? = some h → F[i]? = some l → Shp h l.length ∧ RO w S h (dsV l)
end Go.Proofs.YtpajjnkmaebhcabGreat
end
section
namespace Go.Proofs.YtpajjnkmaebhcabGreat
open Go.RowKit Go.Sl Fil
set_option maxRecDepth 100000
set_option maxHeartbeats 8000000
set_option linter.unusedVariables false
set_option linter.unusedSimpArgs false
attribute [local irreducible] Code.wp wpList bodyPost wpQuiet Exit.then Exit.inBlock Post wpAnyH wpOp
theorem Labels_ok (n : Int) (v : Value) (es : List E) (w : World) (hs : Shp v es.length) (hr : RO w No v (esV es)) (hR : RightG n es) :
    Calls Tryz.prog 90 #[.agg #[.int .i64 n, v]] w (Post w No fun r L' => L' = [rowHP r 3 1 n.toNat (nV (rounds relaxL (tn es) n.toNat (List.range n.toNat)))]) := by
  have hm : es.length < 4611686018427387904 := by have := hR.many; omega
  have hlo := hR.lo
  have hhi := hR.hi
  refine enter0 (vs := [_]) Tryz.func90 rfl Tryz.ntmps90 rfl ?_
  repeat' first
    | refine k_then ?_ | refine c_seq ?_ | refine c_region ?_ | refine s_nil ?_ | refine s_assign (by exact rfl) (by exact rfl) ?_ | refine s_fa (by exact rfl) (by exact rfl) ?_ | refine s_ld_box (by exact rfl) (by exact rfl) (by exact .head _) (by exact rfl) ?_ | refine o_box (by exact rfl) (by exact rfl) (fun b => ?_)
  refine o_make (by exact rfl) (by exact rfl) (by exact rfl) (by omega) (by omega) fun vl hvl => ?_
  rw [made1 (z := .int .i64 0) rfl]
  repeat' first
    | refine k_then ?_ | refine c_seq ?_ | refine c_region ?_ | refine s_nil ?_ | refine s_assign (by exact rfl) (by exact rfl) ?_ | refine c_block ?_
  generalize hN : n.toNat = N at *
  have hnN : n = (N : Int) := by omega
  subst hnN
  refine c_loop (fun i : Nat => i ≤ N) (fun i => [(1, .pointer (some ⟨b, 0, none⟩)), (3, vl), (4, .int .i64 (i : Int))]) (fun i => [rowHP vl 3 1 N (nV (fillL id 0 N i)), boxHP b 24 [.int .i64 (N : Int), v]]) (fun i => N - i) 0 [0, 0] (Nat.zero_le _) (by rw [fill_zero]; simp only [nV, List.map_replicate]; rfl) ⟨rfl, rfl, rfl, trivial⟩ ?_
  intro i hi
  by_cases hil : i < N
  · repeat' first
      | refine k_then ?_ | refine c_seq ?_ | refine c_region ?_ | refine s_nil ?_ | refine s_move (by exact rfl) (by exact rfl) ?_ | refine s_fa (by exact rfl) (by exact rfl) ?_ | refine s_ld_box (by exact rfl) (by exact rfl) (by exact .tail _ (.head _)) (by exact rfl) ?_ | refine s_lss (by exact rfl) (by exact rfl) (by exact rfl) ?_ | refine s_idx (by exact rfl) (by exact rfl) (by exact rfl) (by assumption) (by first | assumption | omega) ?_ | refine c_block ?_ | refine c_skip ?_ | (refine c_cond_p (by exact rfl) (fun h => ?_) (fun h => ?_) <;> try (exfalso; omega))
    refine o_st_row (i := 0) (by exact rfl) (by exact rfl) (by exact rfl) rfl (by omega) ?_
    repeat' first
      | refine k_then ?_ | refine c_region ?_ | refine s_nil ?_ | refine s_move (by exact rfl) (by exact rfl) ?_ | refine s_assign (by exact rfl) (by exact rfl) ?_ | refine s_add (by exact rfl) (by exact rfl) (by exact rfl) (by omega) ?_ | refine k_blk ?_
    refine c_round (i + 1) [0, 0] (by rw [nV_set, ← fill_set id 0 hil]; rfl) (by exact ⟨rfl, rfl, rfl, trivial⟩) (by omega) (by omega)
  · repeat' first
      | refine k_then ?_ | refine c_seq ?_ | refine c_region ?_ | refine s_nil ?_ | refine s_move (by exact rfl) (by exact rfl) ?_ | refine s_assign (by exact rfl) (by exact rfl) ?_ | refine s_fa (by exact rfl) (by exact rfl) ?_ | refine s_ld_box (by exact rfl) (by exact rfl) (by exact .tail _ (.head _)) (by exact rfl) ?_ | refine s_lss (by exact rfl) (by exact rfl) (by exact rfl) ?_ | refine c_block ?_ | refine c_exit ?_ | refine k_then_exit ?_ | refine k_blk_eq ?_ | (refine c_cond_p (by exact rfl) (fun h => ?_) (fun h => ?_) <;> try (exfalso; omega))
    obtain rfl : i = N := by omega
    have hl0 : (List.range i).length = i := by simp
    have hlen : ∀ (r : List (Nat × Nat)) (c : List Nat), (r.foldl relaxL c).length = c.length := by
      intro r
      induction r with
      | nil => intro c; rfl
      | cons e r ih => intro c; rw [List.foldl_cons, ih]; simp [relaxL]
    have hrl : ∀ k, (rounds relaxL (tn es) k (List.range i)).length = i := by
      intro k
      induction k with
      | zero => simp [rounds]
      | succ k ih => rw [rounds, hlen, ih]
    refine c_loop (fun q : Nat => q ≤ i) (fun q => [(1, .pointer (some ⟨b, 0, none⟩)), (3, vl), (5, .int .i64 (q : Int))]) (fun q => [rowHP vl 3 1 i (nV (rounds relaxL (tn es) q (List.range i))), boxHP b 24 [.int .i64 (i : Int), v]]) (fun q => i - q) 0 [0, 0] (Nat.zero_le _) (by rw [fillL_all, List.map_id]; rfl) ⟨rfl, rfl, rfl, trivial⟩ ?_
    intro q hq
    by_cases hql : q < i
    · repeat' first
        | refine k_then ?_ | refine c_seq ?_ | refine c_region ?_ | refine s_nil ?_ | refine s_move (by exact rfl) (by exact rfl) ?_ | refine s_assign (by exact rfl) (by exact rfl) ?_ | refine s_fa (by exact rfl) (by exact rfl) ?_ | refine s_ld_box (by exact rfl) (by exact rfl) (by exact .tail _ (.head _)) (by exact rfl) ?_ | refine s_lss (by exact rfl) (by exact rfl) (by exact rfl) ?_ | refine c_block ?_ | refine c_skip ?_ | (refine c_cond_p (by exact rfl) (fun h => ?_) (fun h => ?_) <;> try (exfalso; omega))
      generalize hc0 : rounds relaxL (tn es) q (List.range i) = c0 at *
      have hc0l : c0.length = i := by rw [← hc0]; exact hrl q
      refine c_loop (fun k : Nat => k ≤ es.length) (fun k => [(1, .pointer (some ⟨b, 0, none⟩)), (3, vl), (5, .int .i64 (q : Int)), (6, .int .i64 (k : Int))]) (fun k => [rowHP vl 3 1 i (nV ((tn (es.take k)).foldl relaxL c0)), boxHP b 24 [.int .i64 (i : Int), v]]) (fun k => es.length - k) 0 [0, 0] (Nat.zero_le _) (by exact rfl) ⟨rfl, rfl, rfl, rfl, trivial⟩ ?_
      intro k hk
      by_cases hkl : k < es.length
      · obtain ⟨e, he⟩ : ∃ e, es[k]? = some e := ⟨_, List.getElem?_eq_getElem hkl⟩
        obtain ⟨hE0, hE1, hE2⟩ := esV_get he
        obtain ⟨q1, q2, q3, -, -⟩ := hR.ok e (List.mem_of_getElem? he)
        have htk := tn_take he
        generalize hc : (tn (es.take k)).foldl relaxL c0 = c at *
        have hcl : c.length = i := by rw [← hc, hlen]; exact hc0l
        have hu := nV_get (l := c) (k := e.1.toNat) (by omega)
        have hv := nV_get (l := c) (k := e.2.1.toNat) (by omega)
        repeat' first
          | refine k_then ?_ | refine c_seq ?_ | refine c_region ?_ | refine s_nil ?_ | refine s_move (by exact rfl) (by exact rfl) ?_ | refine s_fa (by exact rfl) (by exact rfl) ?_ | refine s_ld_box (by exact rfl) (by exact rfl) (by exact .tail _ (.head _)) (by exact rfl) ?_ | refine s_lss (by exact rfl) (by exact rfl) (by exact rfl) ?_ | refine s_len (by exact rfl) (by exact rfl) (by assumption) ?_ | refine c_block ?_ | refine c_skip ?_ | (refine c_cond_p (by exact rfl) (fun h => ?_) (fun h => ?_) <;> try (exfalso; omega))
        refine p_begin0 [(0, true), (1, true), (2, true), (3, true), (4, true), (5, true), (6, true), (7, true), (8, true), (9, true), (10, true), (11, true), (12, true), (13, true), (14, true), (15, true), (16, true), (17, true), (18, true), (19, true)] (by kernel_rfl) ?_
        repeat' first
          | refine p_nil ?_
          | (refine p_at (by exact rfl) ?_
             first
              | refine t_move (by exact rfl) (by exact rfl) (by exact fun _ h => h) ?_ | refine t_assign (by exact rfl) (by exact rfl) (by exact fun _ h => h) ?_ | refine t_fa (by exact rfl) (by exact rfl) (by exact fun _ h => h) ?_ | refine t_ld_box (by exact rfl) (by exact rfl) (by exact .tail _ (.head _)) (by exact rfl) (by exact fun _ h => h) ?_ | refine t_min (by exact rfl) (by exact rfl) (by exact rfl) (by exact fun _ h => h) ?_ | refine t_idx (by exact rfl) (by exact rfl) (by exact rfl) (by assumption) (by first | assumption | omega) (by exact fun _ h => h) ?_ | refine t_idxi (by exact rfl) (by exact rfl) (by exact rfl) (by assumption) (by first | assumption | omega) (by exact fun _ h => h) ?_ | refine t_fap (by exact rfl) (by exact rfl) (by assumption) (by omega) (by exact fun _ h => h) ?_ | refine t_ld_ro (by exact rfl) (by exact rfl) (by assumption) (by assumption) (by exact fun _ h => h) ?_ | refine t_ld_row (by exact rfl) (by exact rfl) (by exact .head _) (by assumption) (by exact fun _ h => h) ?_)
        repeat' first
          | refine k_then ?_ | refine c_seq ?_ | refine c_region ?_ | refine s_move (by exact rfl) (by exact rfl) ?_ | refine s_fa (by exact rfl) (by exact rfl) ?_ | refine s_ld_box (by exact rfl) (by exact rfl) (by exact .tail _ (.head _)) (by exact rfl) ?_ | refine s_idx (by exact rfl) (by exact rfl) (by exact rfl) (by assumption) (by first | assumption | omega) ?_ | refine s_idxi (by exact rfl) (by exact rfl) (by exact rfl) (by assumption) (by first | assumption | omega) ?_ | refine s_fap (by exact rfl) (by exact rfl) (by assumption) (by omega) ?_ | refine s_ld_ro (by exact rfl) (by exact rfl) (by assumption) (by assumption) ?_
        rw [show min ((c.getD e.1.toNat 0 : Nat) : Int) ((c.getD e.2.1.toNat 0 : Nat) : Int) = ((min (c.getD e.1.toNat 0) (c.getD e.2.1.toNat 0) : Nat) : Int) from by omega]
        refine o_st_row (i := 0) (by exact rfl) (by exact rfl) (by exact rfl) rfl (by omega) ?_
        repeat' first
          | refine k_then ?_ | refine c_region ?_ | refine s_nil ?_ | refine s_move (by exact rfl) (by exact rfl) ?_ | refine s_fa (by exact rfl) (by exact rfl) ?_ | refine s_ld_box (by exact rfl) (by exact rfl) (by exact .tail _ (.head _)) (by exact rfl) ?_ | refine s_idx (by exact rfl) (by exact rfl) (by exact rfl) (by assumption) (by first | assumption | omega) ?_ | refine s_idxi (by exact rfl) (by exact rfl) (by exact rfl) (by assumption) (by first | assumption | omega) ?_ | refine s_fap (by exact rfl) (by exact rfl) (by assumption) (by omega) ?_ | refine s_ld_ro (by exact rfl) (by exact rfl) (by assumption) (by assumption) ?_
        refine o_st_row (i := 0) (by exact rfl) (by exact rfl) (by exact rfl) rfl (by omega) ?_
        repeat' first
          | refine k_then ?_ | refine c_region ?_ | refine s_nil ?_ | refine s_move (by exact rfl) (by exact rfl) ?_ | refine s_assign (by exact rfl) (by exact rfl) ?_ | refine s_add (by exact rfl) (by exact rfl) (by exact rfl) (by omega) ?_ | refine k_blk ?_
        refine c_round (k + 1) [0, 0] ?_ (by exact ⟨rfl, rfl, rfl, rfl, trivial⟩) (by omega) (by omega)
        rw [htk, List.foldl_append, hc, nV_set, nV_set]
        rfl
      · repeat' first
          | refine k_then ?_ | refine c_seq ?_ | refine c_region ?_ | refine s_nil ?_ | refine s_move (by exact rfl) (by exact rfl) ?_ | refine s_assign (by exact rfl) (by exact rfl) ?_ | refine s_fa (by exact rfl) (by exact rfl) ?_ | refine s_ld_box (by exact rfl) (by exact rfl) (by exact .tail _ (.head _)) (by exact rfl) ?_ | refine s_lss (by exact rfl) (by exact rfl) (by exact rfl) ?_ | refine s_add (by exact rfl) (by exact rfl) (by exact rfl) (by omega) ?_ | refine s_len (by exact rfl) (by exact rfl) (by assumption) ?_ | refine c_exit ?_ | refine k_then_exit ?_ | refine k_blk ?_ | refine k_blk_eq ?_ | (refine c_cond_p (by exact rfl) (fun h => ?_) (fun h => ?_) <;> try (exfalso; omega))
        obtain rfl : k = es.length := by omega
        refine c_round (q + 1) [0, 0] (by rw [List.take_length, rounds, hc0]; rfl) (by exact ⟨rfl, rfl, rfl, trivial⟩) (by omega) (by omega)
    · repeat' first
        | refine k_then ?_ | refine c_seq ?_ | refine c_region ?_ | refine s_nil ?_ | refine s_move (by exact rfl) (by exact rfl) ?_ | refine s_assign (by exact rfl) (by exact rfl) ?_ | refine s_fa (by exact rfl) (by exact rfl) ?_ | refine s_ld_box (by exact rfl) (by exact rfl) (by exact .tail _ (.head _)) (by exact rfl) ?_ | refine s_lss (by exact rfl) (by exact rfl) (by exact rfl) ?_ | refine c_exit ?_ | refine c_ret ?_ | refine k_then_exit ?_ | refine k_blk_eq ?_ | (refine c_cond_p (by exact rfl) (fun h => ?_) (fun h => ?_) <;> try (exfalso; omega))
      obtain rfl : q = i := by omega
      refine ret1 [0] rfl rfl rfl rfl
end Go.Proofs.YtpajjnkmaebhcabGreat
end
section
namespace Go.Proofs.YtpajjnkmaebhcabGreat
open Go.RowKit Go.Sl Fil
set_option maxRecDepth 100000
set_option maxHeartbeats 8000000
set_option linter.unusedVariables false
set_option linter.unusedSimpArgs false
attribute [local irreducible] Code.wp wpList bodyPost wpQuiet Exit.then Exit.inBlock Post wpAnyH wpOp
theorem refComps_ok (n : Int) (v : Value) (es : List E) (o lab : Nat → Nat) (w : World) (hs : Shp v es.length) (hr : RO w No v (esV es)) (hR : RightG n es) (hLev : Lev n.toNat (nb (tn es)) o lab) :
    Calls Tryz.prog 69 #[.agg #[.int .i64 n, v]] w (Post w No fun r L' => ∃ hr : List Value, hr.length = (compsS n.toNat lab).length ∧ L' = [rowHP r 28 1 (compsS n.toNat lab).length hr, starHP (kids rowN hr (compsS n.toNat lab))]) := by
  have hlo := hR.lo
  have hhi := hR.hi
  refine enter0 (vs := [_]) Tryz.func69 rfl Tryz.ntmps69 rfl ?_
  repeat' first
    | refine k_then ?_ | refine c_seq ?_ | refine c_region ?_ | refine s_nil ?_ | refine s_assign (by exact rfl) (by exact rfl) ?_ | refine s_ldk_box (by exact rfl) (by exact rfl) (by exact .head _) (by exact rfl) (by exact rfl) ?_ | refine o_box (by exact rfl) (by exact rfl) (fun b => ?_)
  refine o_call (by exact rfl) (by exact rfl) (fun w h => Labels_ok n v es w hs (ro_old h hr) hR) ?_
  rintro vl _ rfl
  refine know_row (v := vl) (.head _) fun hvl _ => ?_
  rw [ref_labels hR.good hLev]
  repeat' first
    | refine k_then ?_ | refine c_seq ?_ | refine c_region ?_ | refine s_nil ?_ | refine s_assign (by exact rfl) (by exact rfl) ?_ | refine c_block ?_
  have hle := hLev.le
  generalize hN : n.toNat = N at *
  have hnN : n = (N : Int) := by omega
  subst hnN
  refine c_nil 28 1 ?_
  refine c_star0 ?_
  refine c_loop (fun x : Nat × Value × List Value => x.1 ≤ N ∧ x.2.2.length = (compsI N x.1 lab).length) (fun x => [(1, .pointer (some ⟨b, 0, none⟩)), (3, vl), (4, x.2.1), (5, .int .i64 (x.1 : Int))])
    (fun x => [rowHP x.2.1 28 1 (compsI N x.1 lab).length x.2.2, starHP (kids rowN x.2.2 (compsI N x.1 lab)), rowHP vl 3 1 N (nV ((List.range N).map lab)), boxHP b 24 [.int .i64 (N : Int), v]]) (fun x => N - x.1) (0, .slice none 0 0, []) [1, 0, 0, 0] ⟨Nat.zero_le _, rfl⟩ (by exact rfl) ⟨rfl, rfl, rfl, rfl, trivial⟩ ?_
  rintro ⟨i, vo, ho⟩ ⟨hi, hho⟩
  dsimp only at hi hho ⊢
  by_cases hil : i < N
  · have hli := nV_get (l := (List.range N).map lab) (k := i) (by simpa using hil)
    rw [show ((List.range N).map lab).getD i 0 = lab i from by simp [hil]] at hli
    by_cases hlab : lab i = i
    · have hadd := compsI_add (N := N) hlab
      have hcl := compsI_length N i lab
      generalize hcs : compsI N i lab = cs at *
      repeat' first
        | refine k_then ?_ | refine c_seq ?_ | refine c_region ?_ | refine s_nil ?_ | refine s_move (by exact rfl) (by exact rfl) ?_ | refine s_assign (by exact rfl) (by exact rfl) ?_ | refine s_fa (by exact rfl) (by exact rfl) ?_ | refine s_ld_box (by exact rfl) (by exact rfl) (by exact .tail _ (.tail _ (.tail _ (.head _)))) (by exact rfl) ?_ | refine s_lss (by exact rfl) (by exact rfl) (by exact rfl) ?_ | refine s_neq (by exact rfl) (by exact rfl) (by exact rfl) ?_ | refine s_idx (by exact rfl) (by exact rfl) (by exact rfl) (by assumption) (by first | assumption | omega) ?_ | refine s_ld_row (by exact rfl) (by exact rfl) (by exact .tail _ (.tail _ (.head _))) (by assumption) ?_ | refine c_block ?_ | refine c_skip ?_ | (refine c_cond_p (by exact rfl) (fun h => ?_) (fun h => ?_) <;> try (exfalso; omega))
      refine c_nil 3 1 ?_
      refine c_loop (fun x : Nat × Value => i ≤ x.1 ∧ x.1 ≤ N) (fun x => [(1, .pointer (some ⟨b, 0, none⟩)), (3, vl), (4, vo), (5, .int .i64 (i : Int)), (6, x.2), (7, .int .i64 (x.1 : Int))])
        (fun x => [rowHP x.2 3 1 ((List.range x.1).filter fun u => lab u == i).length (nV ((List.range x.1).filter fun u => lab u == i)), rowHP vo 28 1 cs.length ho, starHP (kids rowN ho cs), rowHP vl 3 1 N (nV ((List.range N).map lab)), boxHP b 24 [.int .i64 (N : Int), v]]) (fun x => N - x.1) (i, .slice none 0 0) [0, 0, 0, 0, 0] ⟨Nat.le_refl _, hi⟩ (by dsimp only; rw [row_low fun u hu => hle u (by omega)]; rfl) ⟨rfl, rfl, rfl, rfl, rfl, rfl, trivial⟩ ?_
      rintro ⟨u, vc⟩ ⟨hiu, hu⟩
      dsimp only at hiu hu ⊢
      by_cases hul : u < N
      · have hlu := nV_get (l := (List.range N).map lab) (k := u) (by simpa using hul)
        rw [show ((List.range N).map lab).getD u 0 = lab u from by simp [hul]] at hlu
        have hrl := row_length u i lab
        by_cases hlabu : lab u = i
        · have hra := row_add (u := u) hlabu
          generalize hrow : (List.range u).filter (fun u => lab u == i) = row at *
          repeat' first
            | refine k_then ?_ | refine c_seq ?_ | refine c_region ?_ | refine s_nil ?_ | refine s_move (by exact rfl) (by exact rfl) ?_ | refine s_fa (by exact rfl) (by exact rfl) ?_ | refine s_ld_box (by exact rfl) (by exact rfl) (by exact .tail _ (.tail _ (.tail _ (.tail _ (.head _))))) (by exact rfl) ?_ | refine s_lss (by exact rfl) (by exact rfl) (by exact rfl) ?_ | refine s_eql (by exact rfl) (by exact rfl) (by exact rfl) ?_ | refine s_idx (by exact rfl) (by exact rfl) (by exact rfl) (by assumption) (by first | assumption | omega) ?_ | refine s_ld_row (by exact rfl) (by exact rfl) (by exact .tail _ (.tail _ (.tail _ (.head _)))) (by assumption) ?_ | refine c_block ?_ | refine c_skip ?_ | (refine c_cond_p (by exact rfl) (fun h => ?_) (fun h => ?_) <;> try (exfalso; omega))
          refine o_mk [.int .i64 (u : Int)] (by exact rfl) (by exact rfl) rfl ?_ ?_ (by simp) fun vt hvt => ?_
          · simp [Value.cells]
          · simp
          skip
          refine o_append_row (i := 1) (by exact rfl) (by exact rfl) (by exact rfl) (by exact rfl) (by exact .head _) (by exact rfl) (by simp [Value.cells, Value.oneCell']) ?_ fun vd hvd => ?_
          · omega
          repeat' first
            | refine k_then ?_ | refine c_region ?_ | refine s_nil ?_ | refine s_move (by exact rfl) (by exact rfl) ?_ | refine s_assign (by exact rfl) (by exact rfl) ?_ | refine s_add (by exact rfl) (by exact rfl) (by exact rfl) (by omega) ?_ | refine k_blk ?_
          refine c_round (u + 1, vd) [1, 1, 1, 1, 1] ?_ (by exact ⟨rfl, rfl, rfl, rfl, rfl, rfl, trivial⟩) (by dsimp only; omega) (by dsimp only; omega)
          dsimp only
          rw [hra]
          have e1 : rowHP vd 3 1 (row.length + 1) (nV row ++ [Value.int .i64 (u : Int)]) = rowHP vd 3 1 (row ++ [u]).length (nV (row ++ [u])) := by simp [nV]
          rw [← e1]
          rfl
        · have hrn := row_next (u := u) hlabu
          repeat' first
            | refine k_then ?_ | refine c_seq ?_ | refine c_region ?_ | refine s_nil ?_ | refine s_move (by exact rfl) (by exact rfl) ?_ | refine s_assign (by exact rfl) (by exact rfl) ?_ | refine s_fa (by exact rfl) (by exact rfl) ?_ | refine s_ld_box (by exact rfl) (by exact rfl) (by exact .tail _ (.tail _ (.tail _ (.tail _ (.head _))))) (by exact rfl) ?_ | refine s_lss (by exact rfl) (by exact rfl) (by exact rfl) ?_ | refine s_eql (by exact rfl) (by exact rfl) (by exact rfl) ?_ | refine s_add (by exact rfl) (by exact rfl) (by exact rfl) (by omega) ?_ | refine s_idx (by exact rfl) (by exact rfl) (by exact rfl) (by assumption) (by first | assumption | omega) ?_ | refine s_ld_row (by exact rfl) (by exact rfl) (by exact .tail _ (.tail _ (.tail _ (.head _)))) (by assumption) ?_ | refine c_block ?_ | refine c_skip ?_ | refine k_blk ?_ | (refine c_cond_p (by exact rfl) (fun h => ?_) (fun h => ?_) <;> try (exfalso; omega))
          refine c_round (u + 1, vc) [0, 0, 0, 0, 0] (by dsimp only; rw [hrn]; rfl) (by exact ⟨rfl, rfl, rfl, rfl, rfl, rfl, trivial⟩) (by dsimp only; omega) (by dsimp only; omega)
      · repeat' first
          | refine k_then ?_ | refine c_seq ?_ | refine c_region ?_ | refine s_nil ?_ | refine s_move (by exact rfl) (by exact rfl) ?_ | refine s_fa (by exact rfl) (by exact rfl) ?_ | refine s_ld_box (by exact rfl) (by exact rfl) (by exact .tail _ (.tail _ (.tail _ (.tail _ (.head _))))) (by exact rfl) ?_ | refine s_lss (by exact rfl) (by exact rfl) (by exact rfl) ?_ | refine c_exit ?_ | refine k_then_exit ?_ | refine k_blk_eq ?_ | (refine c_cond_p (by exact rfl) (fun h => ?_) (fun h => ?_) <;> try (exfalso; omega))
        obtain rfl : u = N := by omega
        refine know_row (v := vc) (.head _) fun hvc _ => ?_
        refine o_mk [vc] (by exact rfl) (by exact rfl) rfl ?_ ?_ (by simp) fun vt hvt => ?_
        · intro u hu
          obtain rfl : u = vc := by simpa using hu
          rw [← Array.length_toList, one_cells hvc.one]; rfl
        · simp
        rw [show ([vc].flatMap fun u => u.cells.toList) = [vc] from by simp [one_cells hvc.one]]
        skip
        refine o_append_row (i := 2) (by exact rfl) (by exact rfl) (by exact rfl) (by exact rfl) (by exact .head _) (by exact rfl) (by simp [hvc.one]) ?_ fun vo2 hvo2 => ?_
        · omega
        repeat' first
          | refine k_then ?_ | refine c_region ?_ | refine s_nil ?_ | refine s_move (by exact rfl) (by exact rfl) ?_ | refine s_assign (by exact rfl) (by exact rfl) ?_ | refine s_add (by exact rfl) (by exact rfl) (by exact rfl) (by omega) ?_ | refine k_blk ?_
        have e1 : rowHP vc 3 1 ((List.range u).filter fun x => lab x == i).length (nV ((List.range u).filter fun x => lab x == i)) = rowN vc ((List.range u).filter fun x => lab x == i) := rfl
        refine c_pick [1, 1, 1, 1, 1] (by exact rfl) ?_
        rw [e1]
        refine c_pushk 1 (by exact rfl) ?_
        refine c_round (i + 1, vo2, ho ++ [vc]) [0, 0, 0, 0] ?_ (by exact ⟨rfl, rfl, rfl, rfl, trivial⟩) ⟨by dsimp only; omega, by dsimp only; rw [hadd, List.length_append, List.length_append, hho]; rfl⟩ (by dsimp only; omega)
        dsimp only
        rw [hadd, kids_append hho, List.length_append]
        rfl
    · have hnx := compsI_next (N := N) hlab
      repeat' first
        | refine k_then ?_ | refine c_seq ?_ | refine c_region ?_ | refine s_nil ?_ | refine s_move (by exact rfl) (by exact rfl) ?_ | refine s_assign (by exact rfl) (by exact rfl) ?_ | refine s_fa (by exact rfl) (by exact rfl) ?_ | refine s_ld_box (by exact rfl) (by exact rfl) (by exact .tail _ (.tail _ (.tail _ (.head _)))) (by exact rfl) ?_ | refine s_lss (by exact rfl) (by exact rfl) (by exact rfl) ?_ | refine s_neq (by exact rfl) (by exact rfl) (by exact rfl) ?_ | refine s_add (by exact rfl) (by exact rfl) (by exact rfl) (by omega) ?_ | refine s_idx (by exact rfl) (by exact rfl) (by exact rfl) (by assumption) (by first | assumption | omega) ?_ | refine s_ld_row (by exact rfl) (by exact rfl) (by exact .tail _ (.tail _ (.head _))) (by assumption) ?_ | refine c_block ?_ | refine c_skip ?_ | refine c_exit ?_ | refine k_then_exit ?_ | refine k_blk_eq ?_ | (refine c_cond_p (by exact rfl) (fun h => ?_) (fun h => ?_) <;> try (exfalso; omega))
      refine c_round (i + 1, vo, ho) [0, 0, 0, 0] (by dsimp only; rw [hnx]; rfl) (by exact ⟨rfl, rfl, rfl, rfl, trivial⟩) ⟨by omega, by dsimp only; rw [hnx]; exact hho⟩ (by dsimp only; omega)
  · repeat' first
      | refine k_then ?_ | refine c_seq ?_ | refine c_region ?_ | refine s_nil ?_ | refine s_move (by exact rfl) (by exact rfl) ?_ | refine s_assign (by exact rfl) (by exact rfl) ?_ | refine s_fa (by exact rfl) (by exact rfl) ?_ | refine s_ld_box (by exact rfl) (by exact rfl) (by exact .tail _ (.tail _ (.tail _ (.head _)))) (by exact rfl) ?_ | refine s_lss (by exact rfl) (by exact rfl) (by exact rfl) ?_ | refine c_exit ?_ | refine c_ret ?_ | refine k_then_exit ?_ | refine k_blk_eq ?_ | (refine c_cond_p (by exact rfl) (fun h => ?_) (fun h => ?_) <;> try (exfalso; omega))
    obtain rfl : i = N := by omega
    refine ret1 [0, 0] rfl rfl rfl ⟨ho, hho, rfl⟩
end Go.Proofs.YtpajjnkmaebhcabGreat
end
section
set_option linter.unusedVariables false
namespace Fil
/-- as the document says it: as many, and each neighbour among them -/
theorem rotB_iff {n : Int} {es : List E} {ls : List (List Int)} (hR : RightG n es) (v : Nat) : rotB n es ls v = true ↔ (ls.getD v []).length = (nearS (tn es) v).length ∧ ∀ u ∈ nearS (tn es) v, (u : Int) ∈ ls.getD v [] := by
  have hnd : (nearS (tn es) v).Nodup := (List.mergeSort_perm _ _).nodup_iff.2 (nb_nd hR.good (tn_nodup hR) v)
  have hnd2 : ((nearS (tn es) v).map fun (k : Nat) => (k : Int)).Nodup := by
    rw [List.Nodup, List.pairwise_map]
    exact hnd.imp fun h e => h (by omega)
  rw [rotB, decide_eq_true_iff]
  generalize ls.getD v [] = l
  constructor
  · intro h
    have hp := List.mergeSort_perm l fun x y => decide (x ≤ y)
    rw [h] at hp
    refine ⟨by simpa using hp.length_eq.symm, fun u hu => hp.mem_iff.1 (List.mem_map.2 ⟨u, hu, rfl⟩)⟩
  · rintro ⟨h1, h2⟩
    have hp : ((nearS (tn es) v).map fun (k : Nat) => (k : Int)).Perm l := perm_of_sub hnd2 (fun a ha => by
      obtain ⟨u, hu, rfl⟩ := List.mem_map.1 ha
      exact h2 u hu) (by simp [h1])
    have hq := (List.mergeSort_perm l fun x y => decide (x ≤ y)).trans hp.symm
    have s1 : (l.mergeSort fun x y => decide (x ≤ y)).Pairwise fun a b => a ≤ b :=
      (List.pairwise_mergeSort (fun a b c h1 h2 => by simp at *; omega) (fun a b => by simp; omega) l).imp fun h => by simpa using h
    have s2 : ((nearS (tn es) v).map fun (k : Nat) => (k : Int)).Pairwise fun a b => a ≤ b := by
      rw [List.pairwise_map]
      exact (List.pairwise_mergeSort (fun a b c h1 h2 => by simp at *; omega) (fun a b => by simp; omega) (nb (tn es) v)).imp fun h => by simp at h; omega
    exact hq.eq_of_pairwise (fun a b _ _ h1 h2 => by omega) s1 s2
end Fil
namespace Go.Proofs.YtpajjnkmaebhcabGreat
open Go.RowKit Go.Sl Fil
set_option maxRecDepth 100000
set_option maxHeartbeats 8000000
set_option linter.unusedVariables false
set_option linter.unusedSimpArgs false
attribute [local irreducible] Code.wp wpList bodyPost wpQuiet Exit.then Exit.inBlock Post wpAnyH wpOp
theorem refRotRight_ok (n : Int) (v : Value) (es : List E) (vr : Value) (hr0 : List Value) (ls : List (List Int)) (w : World) (hs : Shp v es.length) (hr : RO w No v (esV es)) (hm : es.length < 4611686018427387904) (hR : ROsI w No vr hr0 ls) :
    Calls Tryz.prog 37 #[.agg #[.int .i64 n, v], vr] w (Post w No (Just (.int .i64 (rotK n es ls)))) := by
  have hsr := hR.shp
  have hrr := hR.ro
  have hls := hsr.1
  simp only [maxLen] at hls
  refine enter0 (vs := [_, _]) Tryz.func37 rfl Tryz.ntmps37 rfl ?_
  repeat' first
    | refine k_then ?_ | refine c_seq ?_ | refine c_region ?_ | refine s_nil ?_ | refine s_assign (by exact rfl) (by exact rfl) ?_ | refine s_ldk_box (by exact rfl) (by exact rfl) (by exact .head _) (by exact rfl) (by exact rfl) ?_ | refine o_box (by exact rfl) (by exact rfl) (fun b => ?_)
  refine s_call (by exact rfl) (by exact rfl) (fun w h => refRight_ok n v es w hs (ro_old h hr) hm) ?_
  repeat' first
    | refine k_then ?_ | refine c_seq ?_ | refine c_region ?_ | refine s_nil ?_ | refine s_move (by exact rfl) (by exact rfl) ?_ | refine s_assign (by exact rfl) (by exact rfl) ?_ | refine s_fa (by exact rfl) (by exact rfl) ?_ | refine s_ld_box (by exact rfl) (by exact rfl) (by exact .head _) (by exact rfl) ?_ | refine s_neq (by exact rfl) (by exact rfl) (by exact rfl) ?_ | refine s_len (by exact rfl) (by exact rfl) (by assumption) ?_ | refine s_ldk_box (by exact rfl) (by exact rfl) (by exact .head _) (by exact rfl) (by exact rfl) ?_ | refine c_skip ?_ | refine c_ret ?_ | refine k_then_ret ?_ | (refine c_cond_p (by exact rfl) (fun h => ?_) (fun h => ?_) <;> try (exfalso; omega))
  · refine ret1 [] rfl rfl rfl ⟨?_, rfl⟩
    rw [rotK, if_pos h]
  · rename_i h0
    have h1 := h
    refine ret1 [] rfl rfl rfl ⟨?_, rfl⟩
    rw [rotK, if_neg h0, if_pos h1]
  rename_i h0
  have h1 := h
  have hRG := right_iff.1 (Classical.byContradiction h0)
  have hln : ls.length = n.toNat := by have := hRG.lo; omega
  refine o_call (by exact rfl) (by exact rfl) (fun w h => refNear_ok n v es w hs (ro_old h hr) hRG) ?_
  rintro vn _ ⟨hn, hnl, rfl⟩
  refine know_row (v := vn) (.head _) fun hvn _ => ?_
  repeat' first
    | refine k_then ?_ | refine c_seq ?_ | refine c_region ?_ | refine s_nil ?_ | refine s_assign (by exact rfl) (by exact rfl) ?_ | refine c_block ?_
  have hlo := hRG.lo
  have hhi := hRG.hi
  have hAl : ∀ x, (nearS (tn es) x).length ≤ 4194304 := fun x => by
    have h1 := nb_length (tn es) x
    have h2 := hRG.many
    simp only [nearS, List.length_mergeSort]
    simp only [tn, List.length_map] at h1
    simp only [tn]
    omega
  have hrotK : rotK n es ls = if (List.range n.toNat).all (rotB n es ls) then 0 else 12 := by rw [rotK, if_neg h0, if_neg h1]
  rw [hrotK]
  have hBd : ∀ x, rotB n es ls x = true ↔ (ls.getD x []).length = (nearS (tn es) x).length ∧ ∀ u ∈ nearS (tn es) x, (u : Int) ∈ ls.getD x [] := rotB_iff hRG
  generalize rotB n es ls = B at *
  generalize nearS (tn es) = A at *
  clear hrotK h1 h h0
  generalize hN : n.toNat = N at *
  have hnN : n = (N : Int) := by omega
  subst hnN
  have hbad : ∀ k, k < N → ¬ B k = true → (if (List.range N).all B then (0 : Int) else 12) = 12 := fun k hk hb => by
    rw [if_neg]
    intro hall
    exact hb (List.all_eq_true.1 hall k (List.mem_range.2 hk))
  refine c_loop (fun k : Nat => k ≤ N ∧ ∀ u, u < k → B u = true) (fun k => [(1, vr), (2, .pointer (some ⟨b, 0, none⟩)), (5, vn), (6, .int .i64 (k : Int))]) (fun _ => [rowHP vn 28 1 N hn, starHP (kids rowN hn ((List.range N).map A)), boxHP b 24 (Value.agg #[.int .i64 (N : Int), v]).cells.toList]) (fun k => N - k) 0 [0, 0, 0] ⟨Nat.zero_le _, by omega⟩ rfl ⟨rfl, rfl, rfl, rfl, trivial⟩ ?_
  rintro k ⟨hk, hq⟩
  by_cases hlt : k < N
  · obtain ⟨hx, hhx⟩ : ∃ x, hr0[k]? = some x := ⟨_, List.getElem?_eq_getElem (by have := hR.len; omega)⟩
    obtain ⟨l, hl⟩ : ∃ l, ls[k]? = some l := ⟨_, List.getElem?_eq_getElem (by omega)⟩
    obtain ⟨hsx, hrx⟩ := hR.kid k hx l hhx hl
    obtain ⟨hy, hhy⟩ : ∃ x, hn[k]? = some x := ⟨_, List.getElem?_eq_getElem (by omega)⟩
    have hAk : ((List.range N).map A)[k]? = some (A k) := by simp [hlt]
    have hgd : ls.getD k [] = l := by rw [List.getD_eq_getElem?_getD, hl]; rfl
    have h1' : hr0[k * 1]? = some hx := by rw [Nat.mul_one]; exact hhx
    have h2' : hn[k * 1]? = some hy := by rw [Nat.mul_one]; exact hhy
    have hAlk := hAl k
    have hros : ∀ w1, St w No [rowHP vn 28 1 N hn, starHP (kids rowN hn ((List.range N).map A)), boxHP b 24 (Value.agg #[.int .i64 (N : Int), v]).cells.toList] w1 → ROs w1 No vn hn ((List.range N).map A) := fun w1 h => ros_own h (.head _) (by simp) (.tail _ (.head _))
    have hkk : rowHP hy 3 1 (A k).length (nV (A k)) ∈ kids rowN hn ((List.range N).map A) := kids_mem (f := rowN) hhy hAk
    repeat' first
      | refine k_then ?_ | refine c_seq ?_ | refine c_region ?_ | refine s_nil ?_ | refine s_move (by exact rfl) (by exact rfl) ?_ | refine s_fa (by exact rfl) (by exact rfl) ?_ | refine s_ld_box (by exact rfl) (by exact rfl) (by exact .tail _ (.tail _ (.head _))) (by exact rfl) ?_ | refine s_lss (by exact rfl) (by exact rfl) (by exact rfl) ?_ | refine c_block ?_ | refine c_skip ?_ | (refine c_cond_p (by exact rfl) (fun h => ?_) (fun h => ?_) <;> try (exfalso; omega))
    refine know_kid (.tail _ (.head _)) hkk fun hsy _ => ?_
    refine p_begin0 [(0, true), (1, true), (2, true), (3, true), (4, true), (5, true), (6, true), (7, true), (8, true), (9, true), (10, true)] (by kernel_rfl) ?_
    repeat' first
      | refine p_nil ?_
      | (refine p_at (by exact rfl) ?_
         first
          | refine t_move (by exact rfl) (by exact rfl) (by exact fun _ h => h) ?_ | refine t_neq (by exact rfl) (by exact rfl) (by exact rfl) (by exact fun _ h => h) ?_ | refine t_len (by exact rfl) (by exact rfl) (by assumption) (by exact fun _ h => h) ?_ | refine t_idx (by exact rfl) (by exact rfl) (by exact rfl) (by assumption) (by first | assumption | omega) (by exact fun _ h => h) ?_ | refine t_ld_ro (by exact rfl) (by exact rfl) (by assumption) (by assumption) (by exact fun _ h => h) ?_ | refine t_ld_row (by exact rfl) (by exact rfl) (by exact .head _) (by assumption) (by exact fun _ h => h) ?_)
    have hBk := hBd k
    rw [hgd] at hBk
    repeat' first
      | refine k_then ?_ | refine c_seq ?_ | refine c_region ?_ | refine s_nil ?_ | refine s_assign (by exact rfl) (by exact rfl) ?_ | refine c_block ?_ | refine c_skip ?_ | refine c_ret ?_ | refine k_then_ret ?_ | refine k_blk_ret ?_ | (refine c_cond_p (by exact rfl) (fun h => ?_) (fun h => ?_) <;> try (exfalso; omega))
    · refine ret1 [] rfl rfl rfl ⟨?_, rfl⟩
      rw [hbad k hlt fun hb => by have := (hBk.1 hb).1; omega]
    refine c_loop (fun j : Nat => j ≤ (A k).length ∧ ∀ u ∈ (A k).take j, (u : Int) ∈ l) (fun j => [(1, vr), (2, .pointer (some ⟨b, 0, none⟩)), (5, vn), (6, .int .i64 (k : Int)), (7, .int .i64 (j : Int))]) (fun _ => [rowHP vn 28 1 N hn, starHP (kids rowN hn ((List.range N).map A)), boxHP b 24 (Value.agg #[.int .i64 (N : Int), v]).cells.toList]) (fun j => (A k).length - j) 0 [0, 0, 0] ⟨Nat.zero_le _, by simp⟩ rfl ⟨rfl, rfl, rfl, rfl, rfl, trivial⟩ ?_
    rintro j ⟨hj, hjq⟩
    by_cases hjl : j < (A k).length
    · have h3' := nV_get hjl
      repeat' first
        | refine k_then ?_ | refine c_seq ?_ | refine c_region ?_ | refine s_nil ?_ | refine s_move (by exact rfl) (by exact rfl) ?_ | refine s_lss (by exact rfl) (by exact rfl) (by exact rfl) ?_ | refine s_len (by exact rfl) (by exact rfl) (by assumption) ?_ | refine s_idx (by exact rfl) (by exact rfl) (by exact rfl) (by assumption) (by first | assumption | omega) ?_ | refine s_ld_row (by exact rfl) (by exact rfl) (by exact .head _) (by assumption) ?_ | refine c_block ?_ | refine c_skip ?_ | (refine c_cond_p (by exact rfl) (fun h => ?_) (fun h => ?_) <;> try (exfalso; omega))
      refine p_begin0 [(0, true), (1, true), (2, true), (3, true), (4, true), (5, true), (6, true), (7, true), (8, true), (9, true), (10, true), (11, false), (12, true)] (by kernel_rfl) ?_
      repeat' first
        | (refine p_at (by exact rfl) ?_
           first
            | refine t_move (by exact rfl) (by exact rfl) (by exact fun _ h => h) ?_ | refine t_idx (by exact rfl) (by exact rfl) (by exact rfl) (by assumption) (by first | assumption | omega) (by exact fun _ h => h) ?_ | refine t_ld_ro (by exact rfl) (by exact rfl) (by assumption) (by assumption) (by exact fun _ h => h) ?_ | refine t_ld_row (by exact rfl) (by exact rfl) (by exact .head _) (by assumption) (by exact fun _ h => h) ?_ | refine t_ld_kid (by exact rfl) (by exact rfl) (by assumption) (by exact .tail _ (.head _)) (by assumption) (by exact fun _ h => h) ?_)
      refine p_call (gd := none) (by exact rfl) rfl (by exact rfl) (fun w h => Has_ok hx l ((A k).getD j 0 : Nat) w hsx (ro_old h hrx)) (by exact fun _ h => h) ?_
      have hgj : (A k)[j]? = some ((A k).getD j 0) := by rw [List.getD_eq_getElem?_getD, List.getElem?_eq_getElem hjl]; rfl
      by_cases hin : ((A k).getD j 0 : Int) ∈ l
      · rw [decide_eq_true hin]
        repeat' first
          | refine p_nil ?_
          | (refine p_at (by exact rfl) ?_
             first
              | refine t_not (by exact rfl) (by exact rfl) (by exact fun _ h => h) ?_)
        repeat' first
          | refine k_then ?_ | refine c_region ?_ | refine s_nil ?_ | refine s_move (by exact rfl) (by exact rfl) ?_ | refine s_assign (by exact rfl) (by exact rfl) ?_ | refine s_add (by exact rfl) (by exact rfl) (by exact rfl) (by omega) ?_ | refine c_skip ?_ | refine k_blk ?_ | refine c_cond_f (by exact rfl) ?_
        refine c_round (j + 1) [0, 0, 0] (by exact rfl) (by exact ⟨rfl, rfl, rfl, rfl, rfl, trivial⟩) ⟨by omega, fun u hu => ?_⟩ (by omega)
        rw [List.take_add_one, hgj] at hu
        rcases List.mem_append.1 hu with hu | hu
        · exact hjq u hu
        · obtain rfl : u = (A k).getD j 0 := by simpa using hu
          exact hin
      · rw [decide_eq_false hin]
        repeat' first
          | refine p_nil ?_
          | (refine p_at (by exact rfl) ?_
             first
              | refine t_not (by exact rfl) (by exact rfl) (by exact fun _ h => h) ?_)
        repeat' first
          | refine k_then ?_ | refine c_seq ?_ | refine c_region ?_ | refine s_nil ?_ | refine s_assign (by exact rfl) (by exact rfl) ?_ | refine c_ret ?_ | refine k_then_ret ?_ | refine k_blk_ret ?_ | refine c_cond_t (by exact rfl) ?_
        refine ret1 [] rfl rfl rfl ⟨?_, rfl⟩
        rw [hbad k hlt fun hb => hin ((hBk.1 hb).2 _ (List.mem_of_getElem? hgj))]
    · repeat' first
        | refine k_then ?_ | refine c_seq ?_ | refine c_region ?_ | refine s_nil ?_ | refine s_move (by exact rfl) (by exact rfl) ?_ | refine s_assign (by exact rfl) (by exact rfl) ?_ | refine s_lss (by exact rfl) (by exact rfl) (by exact rfl) ?_ | refine s_add (by exact rfl) (by exact rfl) (by exact rfl) (by omega) ?_ | refine s_len (by exact rfl) (by exact rfl) (by assumption) ?_ | refine s_idx (by exact rfl) (by exact rfl) (by exact rfl) (by assumption) (by first | assumption | omega) ?_ | refine s_ld_row (by exact rfl) (by exact rfl) (by exact .head _) (by assumption) ?_ | refine c_exit ?_ | refine k_then_exit ?_ | refine k_blk ?_ | refine k_blk_eq ?_ | (refine c_cond_p (by exact rfl) (fun h => ?_) (fun h => ?_) <;> try (exfalso; omega))
      rw [List.take_of_length_le (by omega)] at hjq
      refine c_round (k + 1) [0, 0, 0] (by exact rfl) (by exact ⟨rfl, rfl, rfl, rfl, trivial⟩) ⟨by omega, fun u hu => ?_⟩ (by omega)
      by_cases e : u = k
      · rw [e]; exact hBk.2 ⟨by omega, hjq⟩
      · exact hq u (by omega)
  · repeat' first
      | refine k_then ?_ | refine c_seq ?_ | refine c_region ?_ | refine s_nil ?_ | refine s_move (by exact rfl) (by exact rfl) ?_ | refine s_assign (by exact rfl) (by exact rfl) ?_ | refine s_fa (by exact rfl) (by exact rfl) ?_ | refine s_ld_box (by exact rfl) (by exact rfl) (by exact .tail _ (.tail _ (.head _))) (by exact rfl) ?_ | refine s_lss (by exact rfl) (by exact rfl) (by exact rfl) ?_ | refine c_exit ?_ | refine c_ret ?_ | refine k_then_exit ?_ | refine k_blk_eq ?_ | (refine c_cond_p (by exact rfl) (fun h => ?_) (fun h => ?_) <;> try (exfalso; omega))
    refine ret1 [] rfl rfl rfl ⟨?_, rfl⟩
    rw [if_pos]
    rw [List.all_eq_true]
    intro u hu
    exact hq u (by have := List.mem_range.1 hu; omega)
end Go.Proofs.YtpajjnkmaebhcabGreat
end
section
set_option linter.unusedVariables false
namespace Go.Proofs.YtpajjnkmaebhcabGreat
open Go Go.RowKit Go.Sl Fil
set_option maxRecDepth 100000
set_option maxHeartbeats 8000000
set_option linter.unusedVariables false
set_option linter.unusedSimpArgs false
attribute [local irreducible] Code.wp wpList bodyPost wpQuiet Exit.then Exit.inBlock Post wpAnyH wpOp
theorem HasI_ok (v : Value) (l : List Nat) (i : Int) (w : World) (hi : i = (i.toNat : Int)) (hs : Shp v l.length) (hr : RO w No v (nV l)) :
    Calls Tryz.prog 47 #[v, .int .i64 i] w (Post w No (Just (.bool (decide (i.toNat ∈ l))))) := by
  have h := HasN_ok v l i.toNat w hs hr
  rwa [← hi] at h
theorem refEuler_ok (n : Int) (v : Value) (es : List E) (vr : Value) (hr0 : List Value) (R : List (List Nat)) (o lab : Nat → Nat) (w : World) (hs : Shp v es.length) (hr : RO w No v (esV es)) (hG : RightG n es) (hR : ROs w No vr hr0 R) (hRot : RotL n.toNat (tn es) R) (hL : Lev n.toNat (nb (tn es)) o lab) :
    Calls Tryz.prog 38 #[.agg #[.int .i64 n, v], vr] w (Post w No fun r L' => L' = [rowHP r 3 1 (eulerL n.toNat (tn es) lab (facesR n.toNat (tn es) R)).length (iV (eulerL n.toNat (tn es) lab (facesR n.toNat (tn es) R)))]) := by
  have hsr := hR.shp
  have hrr := hR.ro
  have hlo := hG.lo
  have hhi := hG.hi
  have hmany := hG.many
  refine enter0 (vs := [_, _]) Tryz.func38 rfl Tryz.ntmps38 rfl ?_
  repeat' first
    | refine k_then ?_ | refine c_seq ?_ | refine c_region ?_ | refine s_nil ?_ | refine s_assign (by exact rfl) (by exact rfl) ?_ | refine s_ldk_box (by exact rfl) (by exact rfl) (by exact .head _) (by exact rfl) (by exact rfl) ?_ | refine o_box (by exact rfl) (by exact rfl) (fun b => ?_)
  revert b; intro bg
  refine o_call (by exact rfl) (by exact rfl) (fun w h => refComps_ok n v es o lab w hs (ro_old h hr) hG hL) ?_
  rintro vc _ ⟨hc, hcl, rfl⟩
  refine know_row (v := vc) (.head _) fun hvc _ => ?_
  repeat' first
    | refine k_then ?_ | refine c_seq ?_ | refine c_region ?_ | refine s_nil ?_ | refine s_move (by exact rfl) (by exact rfl) ?_ | refine s_assign (by exact rfl) (by exact rfl) ?_ | refine s_ldk_box (by exact rfl) (by exact rfl) (by exact .tail _ (.tail _ (.head _))) (by exact rfl) (by exact rfl) ?_
  refine o_call (by exact rfl) (by exact rfl) (fun w h => refFaces_ok n v es vr hr0 R w hs (ro_old h hr) hG (ros_old h hR) hRot) ?_
  rintro vf _ ⟨hf, hfl, rfl⟩
  refine know_row (v := vf) (.head _) fun hvf _ => ?_
  have hcN : (compsS n.toNat lab).length ≤ n.toNat := compsI_length _ _ lab
  have hdec := facesR_dec hG hRot
  have hFne : ∀ f ∈ facesR n.toNat (tn es) R, ∃ d t, f = d :: t ∧ d.1 < n.toNat := fun f hf => by
    cases f with
    | nil => exact absurd rfl (hdec.cy _ hf).1
    | cons d t => exact ⟨d, t, rfl, (dart_lt hG (hdec.perm.mem_iff.1 (List.mem_flatten.2 ⟨_, hf, .head _⟩))).1⟩
  have hFl : (facesR n.toNat (tn es) R).length ≤ 2 * es.length := by
    have h1 := flat_le (C := facesR n.toNat (tn es) R) fun f hf => (hdec.cy f hf).1
    have h2 := hdec.perm.length_eq
    rw [dartsAll_length hG] at h2
    omega
  have hcl2 : ∀ c ∈ compsS n.toNat lab, c.length ≤ n.toNat := fun c hc => by
    obtain ⟨r, h1, h2, rfl⟩ := comp_mem hc
    have := List.length_filter_le (fun u => lab u == r) (List.range n.toNat); simpa using this
  have hK : ∀ c ∈ compsS n.toNat lab, eulerK (tn es) (facesR n.toNat (tn es) R) c = (c.length : Int) - (((tn es).filter fun e => decide (e.1 ∈ c)).length : Int) + (((facesR n.toNat (tn es) R).filter fun f => decide ((f.headD (0, 0)).1 ∈ c)).length : Int) + if ((tn es).filter fun e => decide (e.1 ∈ c)).length = 0 then 1 else 0 := fun c hc => by
    rw [eulerK]
    by_cases h1 : c.length = 1
    · rw [if_pos h1, (single hG hRot hL hc h1).2, h1]
      simp; omega
    · rw [if_neg h1, if_neg fun h => edge_of hG hRot hL hc h1 (List.eq_nil_of_length_eq_zero h)]
      omega
  have hfe : ∀ (c : List Nat) (k : Nat), ((((tn es).take k).filter fun e => decide (e.1 ∈ c)).length) ≤ k := fun c k => by
    have := List.length_filter_le (fun e : Nat × Nat => decide (e.1 ∈ c)) ((tn es).take k)
    rw [List.length_take] at this; omega
  have hff : ∀ (c : List Nat) (k : Nat), ((((facesR n.toNat (tn es) R).take k).filter fun f => decide ((f.headD (0, 0)).1 ∈ c)).length) ≤ k := fun c k => by
    have := List.length_filter_le (fun f : List (Nat × Nat) => decide ((f.headD (0, 0)).1 ∈ c)) ((facesR n.toNat (tn es) R).take k)
    rw [List.length_take] at this; omega
  unfold eulerL
  generalize facesR n.toNat (tn es) R = Fs at *
  generalize compsS n.toNat lab = cs at *
  rw [List.length_map]
  refine c_nil 3 1 ?_
  repeat' first
    | refine k_then ?_ | refine c_seq ?_ | refine c_region ?_ | refine s_nil ?_ | refine s_assign (by exact rfl) (by exact rfl) ?_ | refine c_block ?_
  refine c_loop (fun x : Nat × Value => x.1 ≤ cs.length) (fun x => [(1, vr), (2, .pointer (some ⟨bg, 0, none⟩)), (5, vc), (6, vf), (7, x.2), (8, .int .i64 (x.1 : Int))])
    (fun x => [rowHP x.2 3 1 x.1 (iV ((cs.take x.1).map (eulerK (tn es) Fs))), rowHP vf 101 1 Fs.length hf, starHP (kids rowD hf Fs), rowHP vc 28 1 cs.length hc, starHP (kids rowN hc cs), boxHP bg 24 [.int .i64 n, v]])
    (fun x => cs.length - x.1) (0, .slice none 0 0) [0, 0, 0, 0, 0, 0] (Nat.zero_le _) (by exact rfl) ⟨rfl, rfl, rfl, rfl, rfl, rfl, trivial⟩ ?_
  rintro ⟨i, vo⟩ hi
  dsimp only at hi ⊢
  by_cases hil : i < cs.length
  · obtain ⟨c, hci⟩ : ∃ c, cs[i]? = some c := ⟨_, List.getElem?_eq_getElem hil⟩
    obtain ⟨hd, hhd⟩ : ∃ hd, hc[i]? = some hd := ⟨_, List.getElem?_eq_getElem (by omega)⟩
    have hhd1 : hc[i * 1]? = some hd := by rw [Nat.mul_one]; exact hhd
    have hcm := List.mem_of_getElem? hci
    have hcl3 := hcl2 c hcm
    have hKc := hK c hcm
    have hfec := hfe c
    have hffc := hff c
    have hkd : rowHP hd 3 1 c.length (nV c) ∈ kids rowN hc cs := kids_mem (f := rowN) hhd hci
    repeat' first
      | refine k_then ?_ | refine c_seq ?_ | refine c_region ?_ | refine s_nil ?_ | refine s_move (by exact rfl) (by exact rfl) ?_ | refine s_lss (by exact rfl) (by exact rfl) (by exact rfl) ?_ | refine s_len (by exact rfl) (by exact rfl) (by assumption) ?_ | refine s_idx (by exact rfl) (by exact rfl) (by exact rfl) (by assumption) (by first | assumption | omega) ?_ | refine s_ld_row (by exact rfl) (by exact rfl) (by exact .tail _ (.tail _ (.tail _ (.head _)))) (by assumption) ?_ | refine c_block ?_ | refine c_skip ?_ | (refine c_cond_p (by exact rfl) (fun h => ?_) (fun h => ?_) <;> try (exfalso; omega))
    refine know_kid (by exact .tail _ (.tail _ (.tail _ (.tail _ (.head _))))) hkd fun hsd _ => ?_
    repeat' first
      | refine k_then ?_ | refine c_seq ?_ | refine c_region ?_ | refine s_nil ?_ | refine s_assign (by exact rfl) (by exact rfl) ?_ | refine s_len (by exact rfl) (by exact rfl) (by assumption) ?_ | refine c_block ?_
    refine c_loop (fun k : Nat => k ≤ es.length) (fun k => [(1, vr), (2, .pointer (some ⟨bg, 0, none⟩)), (5, vc), (6, vf), (7, vo), (8, .int .i64 (i : Int)), (9, .int .i64 (c.length : Int)), (10, .int .i64 (((((tn es).take k).filter fun e => decide (e.1 ∈ c)).length : Nat) : Int)), (11, .int .i64 (k : Int))])
      (fun k => [rowHP vo 3 1 i (iV ((cs.take i).map (eulerK (tn es) Fs))), rowHP vf 101 1 Fs.length hf, starHP (kids rowD hf Fs), rowHP vc 28 1 cs.length hc, starHP (kids rowN hc cs), boxHP bg 24 [.int .i64 n, v]])
      (fun k => es.length - k) 0 [0, 0, 0, 0, 0, 0] (Nat.zero_le _) (by exact rfl) ⟨rfl, rfl, rfl, rfl, rfl, rfl, rfl, rfl, rfl, trivial⟩ ?_
    rintro k hk
    have hfk := hfec k
    by_cases hkl : k < es.length
    · obtain ⟨e, he⟩ : ∃ e, es[k]? = some e := ⟨_, List.getElem?_eq_getElem hkl⟩
      obtain ⟨o1, o2, o3, o4, _⟩ := hG.ok e (List.mem_of_getElem? he)
      have het : (tn es)[k]? = some (e.1.toNat, e.2.1.toNat) := by rw [tn, List.getElem?_map, he]; rfl
      have hcnt := fcount (fun e : Nat × Nat => decide (e.1 ∈ c)) het
      have hE0 : (esV es)[k * 3 + 0]? = some (.int .i64 e.1) := (esV_get he).1
      repeat' first
        | refine k_then ?_ | refine c_seq ?_ | refine c_region ?_ | refine s_nil ?_ | refine s_move (by exact rfl) (by exact rfl) ?_ | refine s_fa (by exact rfl) (by exact rfl) ?_ | refine s_ld_box (by exact rfl) (by exact rfl) (by exact .tail _ (.tail _ (.tail _ (.tail _ (.tail _ (.head _)))))) (by exact rfl) ?_ | refine s_lss (by exact rfl) (by exact rfl) (by exact rfl) ?_ | refine s_len (by exact rfl) (by exact rfl) (by assumption) ?_ | refine c_block ?_ | refine c_skip ?_ | (refine c_cond_p (by exact rfl) (fun h => ?_) (fun h => ?_) <;> try (exfalso; omega))
      refine p_begin0 [(0, true), (1, true), (2, true), (3, true), (4, true), (5, true), (6, true), (7, true), (8, true), (9, true), (10, false)] (by kernel_rfl) ?_
      repeat' first
        | (refine p_at (by exact rfl) ?_
           first
            | refine t_move (by exact rfl) (by exact rfl) (by exact fun _ h => h) ?_ | refine t_fa (by exact rfl) (by exact rfl) (by exact fun _ h => h) ?_ | refine t_ld_box (by exact rfl) (by exact rfl) (by exact .tail _ (.tail _ (.tail _ (.tail _ (.tail _ (.head _)))))) (by exact rfl) (by exact fun _ h => h) ?_ | refine t_idx (by exact rfl) (by exact rfl) (by exact rfl) (by assumption) (by first | assumption | omega) (by exact fun _ h => h) ?_ | refine t_fap (by exact rfl) (by exact rfl) (by assumption) (by omega) (by exact fun _ h => h) ?_ | refine t_ld_ro (by exact rfl) (by exact rfl) (by assumption) (by assumption) (by exact fun _ h => h) ?_ | refine t_ld_row (by exact rfl) (by exact rfl) (by exact .tail _ (.tail _ (.tail _ (.head _)))) (by assumption) (by exact fun _ h => h) ?_)
      refine p_call (gd := none) (by exact rfl) rfl (by exact rfl) (fun w h => HasI_ok hd c e.1 w (by omega) hsd (ro_kid h (by exact .tail _ (.tail _ (.tail _ (.tail _ (.head _))))) hkd)) (by exact fun _ h => h) ?_
      by_cases hin : e.1.toNat ∈ c
      · rw [decide_eq_true hin]
        rw [if_pos (decide_eq_true hin)] at hcnt
        have hc1 : (((((tn es).take (k + 1)).filter fun e => decide (e.1 ∈ c)).length : Nat) : Int) = (((((tn es).take k).filter fun e => decide (e.1 ∈ c)).length : Nat) : Int) + 1 := by rw [hcnt]; rfl
        repeat' first
          | refine p_nil ?_
        repeat' first
          | refine k_then ?_ | refine c_region ?_ | refine s_nil ?_ | refine s_move (by exact rfl) (by exact rfl) ?_ | refine s_assign (by exact rfl) (by exact rfl) ?_ | refine s_add (by exact rfl) (by exact rfl) (by exact rfl) (by omega) ?_ | refine k_blk ?_ | refine c_cond_t (by exact rfl) ?_
        refine c_round (k + 1) [0, 0, 0, 0, 0, 0] (by exact rfl) (by rw [hc1]; exact ⟨rfl, rfl, rfl, rfl, rfl, rfl, rfl, rfl, rfl, trivial⟩) (by omega) (by omega)
      · rw [decide_eq_false hin]
        rw [if_neg (by simpa using hin)] at hcnt
        have hc1 : ((((tn es).take (k + 1)).filter fun e => decide (e.1 ∈ c)).length) = ((((tn es).take k).filter fun e => decide (e.1 ∈ c)).length) := hcnt
        repeat' first
          | refine p_nil ?_
        repeat' first
          | refine k_then ?_ | refine c_region ?_ | refine s_nil ?_ | refine s_move (by exact rfl) (by exact rfl) ?_ | refine s_assign (by exact rfl) (by exact rfl) ?_ | refine s_add (by exact rfl) (by exact rfl) (by exact rfl) (by omega) ?_ | refine c_skip ?_ | refine k_blk ?_ | refine c_cond_f (by exact rfl) ?_
        refine c_round (k + 1) [0, 0, 0, 0, 0, 0] (by exact rfl) (by rw [hc1]; exact ⟨rfl, rfl, rfl, rfl, rfl, rfl, rfl, rfl, rfl, trivial⟩) (by omega) (by omega)
    · have hkk : k = (tn es).length := by rw [tn_len]; omega
      rw [hkk, List.take_length] at hfk ⊢
      generalize hce : ((tn es).filter fun e => decide (e.1 ∈ c)).length = ce at *
      rw [tn_len] at hfk
      repeat' first
        | refine k_then ?_ | refine c_seq ?_ | refine c_region ?_ | refine s_nil ?_ | refine s_move (by exact rfl) (by exact rfl) ?_ | refine s_assign (by exact rfl) (by exact rfl) ?_ | refine s_fa (by exact rfl) (by exact rfl) ?_ | refine s_ld_box (by exact rfl) (by exact rfl) (by exact .tail _ (.tail _ (.tail _ (.tail _ (.tail _ (.head _)))))) (by exact rfl) ?_ | refine s_lss (by exact rfl) (by exact rfl) (by exact rfl) ?_ | refine s_sub (by exact rfl) (by exact rfl) (by exact rfl) (by omega) ?_ | refine s_len (by exact rfl) (by exact rfl) (by assumption) ?_ | refine c_block ?_ | refine c_exit ?_ | refine k_then_exit ?_ | refine k_blk_eq ?_ | (refine c_cond_p (by exact rfl) (fun h => ?_) (fun h => ?_) <;> try (exfalso; omega))
      refine c_loop (fun j : Nat => j ≤ Fs.length) (fun j => [(1, vr), (2, .pointer (some ⟨bg, 0, none⟩)), (5, vc), (6, vf), (7, vo), (8, .int .i64 (i : Int)), (9, .int .i64 ((c.length : Int) - (ce : Int) + ((((Fs.take j).filter fun f => decide ((f.headD (0, 0)).1 ∈ c)).length : Nat) : Int))), (10, .int .i64 (ce : Int)), (12, .int .i64 (j : Int))])
        (fun j => [rowHP vo 3 1 i (iV ((cs.take i).map (eulerK (tn es) Fs))), rowHP vf 101 1 Fs.length hf, starHP (kids rowD hf Fs), rowHP vc 28 1 cs.length hc, starHP (kids rowN hc cs), boxHP bg 24 [.int .i64 n, v]])
        (fun j => Fs.length - j) 0 [0, 0, 0, 0, 0, 0] (Nat.zero_le _) (by exact rfl) (by simp only [List.take_zero, List.filter_nil, List.length_nil, Int.natCast_zero, Int.add_zero]; exact ⟨rfl, rfl, rfl, rfl, rfl, rfl, rfl, rfl, rfl, trivial⟩) ?_
      rintro j hj
      have hfj := hffc j
      by_cases hjl : j < Fs.length
      · obtain ⟨f, hf1⟩ : ∃ f, Fs[j]? = some f := ⟨_, List.getElem?_eq_getElem hjl⟩
        obtain ⟨hd2, hhd2⟩ : ∃ hd, hf[j]? = some hd := ⟨_, List.getElem?_eq_getElem (by omega)⟩
        have hhd3 : hf[j * 1]? = some hd2 := by rw [Nat.mul_one]; exact hhd2
        obtain ⟨d, t, rfl, hdN⟩ := hFne f (List.mem_of_getElem? hf1)
        have hcnt := fcount (fun f : List (Nat × Nat) => decide ((f.headD (0, 0)).1 ∈ c)) hf1
        have hkd2 : rowHP hd2 100 2 (d :: t).length (dsV (d :: t)) ∈ kids rowD hf Fs := kids_mem (f := rowD) hhd2 hf1
        have hd0 : (dsV (d :: t))[0 * 2 + 0]? = some (.int .i64 (d.1 : Int)) := rfl
        have hpos : 0 < (d :: t).length := by simp
        repeat' first
          | refine k_then ?_ | refine c_seq ?_ | refine c_region ?_ | refine s_nil ?_ | refine s_move (by exact rfl) (by exact rfl) ?_ | refine s_lss (by exact rfl) (by exact rfl) (by exact rfl) ?_ | refine s_len (by exact rfl) (by exact rfl) (by assumption) ?_ | refine c_block ?_ | refine c_skip ?_ | (refine c_cond_p (by exact rfl) (fun h => ?_) (fun h => ?_) <;> try (exfalso; omega))
        refine know_kid (by exact .tail _ (.tail _ (.head _))) hkd2 fun hsd2 _ => ?_
        refine p_begin0 [(0, true), (1, true), (2, true), (3, true), (4, true), (5, true), (6, true), (7, true), (8, true), (9, true), (10, true), (11, false)] (by kernel_rfl) ?_
        repeat' first
          | (refine p_at (by exact rfl) ?_
             first
              | refine t_move (by exact rfl) (by exact rfl) (by exact fun _ h => h) ?_ | refine t_idx (by exact rfl) (by exact rfl) (by exact rfl) (by assumption) (by first | assumption | omega) (by exact fun _ h => h) ?_ | refine t_fap (by exact rfl) (by exact rfl) (by assumption) (by omega) (by exact fun _ h => h) ?_ | refine t_ld_row (by exact rfl) (by exact rfl) (by first | exact .tail _ (.head _) | exact .tail _ (.tail _ (.tail _ (.head _)))) (by assumption) (by exact fun _ h => h) ?_ | refine t_ld_kid (by exact rfl) (by exact rfl) (by assumption) (by exact .tail _ (.tail _ (.head _))) (by assumption) (by exact fun _ h => h) ?_)
        refine p_call (gd := none) (by exact rfl) rfl (by exact rfl) (fun w h => HasN_ok hd c d.1 w hsd (ro_kid h (by exact .tail _ (.tail _ (.tail _ (.tail _ (.head _))))) hkd)) (by exact fun _ h => h) ?_
        by_cases hin : d.1 ∈ c
        · rw [decide_eq_true hin]
          rw [if_pos (by simpa using hin)] at hcnt
          have hc1 : (c.length : Int) - (ce : Int) + (((((Fs.take (j + 1)).filter fun f => decide ((f.headD (0, 0)).1 ∈ c)).length : Nat) : Int)) = (c.length : Int) - (ce : Int) + (((((Fs.take j).filter fun f => decide ((f.headD (0, 0)).1 ∈ c)).length : Nat) : Int)) + 1 := by rw [hcnt]; omega
          repeat' first
            | refine p_nil ?_
          repeat' first
            | refine k_then ?_ | refine c_region ?_ | refine s_nil ?_ | refine s_move (by exact rfl) (by exact rfl) ?_ | refine s_assign (by exact rfl) (by exact rfl) ?_ | refine s_add (by exact rfl) (by exact rfl) (by exact rfl) (by omega) ?_ | refine k_blk ?_ | refine c_cond_t (by exact rfl) ?_
          refine c_round (j + 1) [0, 0, 0, 0, 0, 0] (by exact rfl) (by rw [hc1]; exact ⟨rfl, rfl, rfl, rfl, rfl, rfl, rfl, rfl, rfl, trivial⟩) (by omega) (by omega)
        · rw [decide_eq_false hin]
          rw [if_neg (by simpa using hin), Nat.add_zero] at hcnt
          repeat' first
            | refine p_nil ?_
          repeat' first
            | refine k_then ?_ | refine c_region ?_ | refine s_nil ?_ | refine s_move (by exact rfl) (by exact rfl) ?_ | refine s_assign (by exact rfl) (by exact rfl) ?_ | refine s_add (by exact rfl) (by exact rfl) (by exact rfl) (by omega) ?_ | refine c_skip ?_ | refine k_blk ?_ | refine c_cond_f (by exact rfl) ?_
          refine c_round (j + 1) [0, 0, 0, 0, 0, 0] (by exact rfl) (by rw [hcnt]; exact ⟨rfl, rfl, rfl, rfl, rfl, rfl, rfl, rfl, rfl, trivial⟩) (by omega) (by omega)
      · obtain rfl : j = Fs.length := by omega
        rw [List.take_length] at hfj ⊢
        have htk : (cs.take (i + 1)).map (eulerK (tn es) Fs) = (cs.take i).map (eulerK (tn es) Fs) ++ [eulerK (tn es) Fs c] := by rw [List.take_add_one, hci, List.map_append]; rfl
        rw [hKc] at htk
        generalize (Fs.filter fun f => decide ((f.headD (0, 0)).1 ∈ c)).length = cf at *
        by_cases h0 : ce = 0
        · rw [if_pos h0] at htk
          repeat' first
            | refine k_then ?_ | refine c_seq ?_ | refine c_region ?_ | refine s_nil ?_ | refine s_move (by exact rfl) (by exact rfl) ?_ | refine s_assign (by exact rfl) (by exact rfl) ?_ | refine s_lss (by exact rfl) (by exact rfl) (by exact rfl) ?_ | refine s_eql (by exact rfl) (by exact rfl) (by exact rfl) ?_ | refine s_add (by exact rfl) (by exact rfl) (by exact rfl) (by omega) ?_ | refine s_len (by exact rfl) (by exact rfl) (by assumption) ?_ | refine c_exit ?_ | refine k_then_exit ?_ | refine k_blk_eq ?_ | (refine c_cond_p (by exact rfl) (fun h => ?_) (fun h => ?_) <;> try (exfalso; omega))
          refine o_mk [.int .i64 ((c.length : Int) - (ce : Int) + (cf : Int) + 1)] (by exact rfl) (by exact rfl) rfl ?_ ?_ (by simp) fun vt hvt => ?_
          · simp [Value.cells]
          · simp
          skip
          refine o_append_row (i := 1) (by exact rfl) (by exact rfl) (by exact rfl) (by exact rfl) (by exact .head _) (by exact rfl) (by simp [Value.cells, Value.oneCell']) (by omega) fun vy hvy => ?_
          repeat' first
            | refine k_then ?_ | refine c_region ?_ | refine s_nil ?_ | refine s_move (by exact rfl) (by exact rfl) ?_ | refine s_assign (by exact rfl) (by exact rfl) ?_ | refine s_add (by exact rfl) (by exact rfl) (by exact rfl) (by omega) ?_ | refine k_blk ?_
          refine c_round (i + 1, vy) [1, 1, 1, 1, 1, 1] ?_ ⟨rfl, rfl, rfl, rfl, rfl, rfl, trivial⟩ (by dsimp only; omega) (by dsimp only; omega)
          dsimp only
          rw [htk, show ∀ a b : List Int, iV (a ++ b) = iV a ++ iV b from fun a b => by simp [iV]]
          rfl
        · rw [if_neg h0, Int.add_zero] at htk
          repeat' first
            | refine k_then ?_ | refine c_seq ?_ | refine c_region ?_ | refine s_nil ?_ | refine s_move (by exact rfl) (by exact rfl) ?_ | refine s_lss (by exact rfl) (by exact rfl) (by exact rfl) ?_ | refine s_eql (by exact rfl) (by exact rfl) (by exact rfl) ?_ | refine s_len (by exact rfl) (by exact rfl) (by assumption) ?_ | refine c_skip ?_ | refine c_exit ?_ | refine k_then_exit ?_ | refine k_blk_eq ?_ | (refine c_cond_p (by exact rfl) (fun h => ?_) (fun h => ?_) <;> try (exfalso; omega))
          refine o_mk [.int .i64 ((c.length : Int) - (ce : Int) + (cf : Int))] (by exact rfl) (by exact rfl) rfl ?_ ?_ (by simp) fun vt hvt => ?_
          · simp [Value.cells]
          · simp
          skip
          refine o_append_row (i := 1) (by exact rfl) (by exact rfl) (by exact rfl) (by exact rfl) (by exact .head _) (by exact rfl) (by simp [Value.cells, Value.oneCell']) (by omega) fun vy hvy => ?_
          repeat' first
            | refine k_then ?_ | refine c_region ?_ | refine s_nil ?_ | refine s_move (by exact rfl) (by exact rfl) ?_ | refine s_assign (by exact rfl) (by exact rfl) ?_ | refine s_add (by exact rfl) (by exact rfl) (by exact rfl) (by omega) ?_ | refine k_blk ?_
          refine c_round (i + 1, vy) [1, 1, 1, 1, 1, 1] ?_ ⟨rfl, rfl, rfl, rfl, rfl, rfl, trivial⟩ (by dsimp only; omega) (by dsimp only; omega)
          dsimp only
          rw [htk, show ∀ a b : List Int, iV (a ++ b) = iV a ++ iV b from fun a b => by simp [iV]]
          rfl
  · repeat' first
      | refine k_then ?_ | refine c_seq ?_ | refine c_region ?_ | refine s_nil ?_ | refine s_move (by exact rfl) (by exact rfl) ?_ | refine s_assign (by exact rfl) (by exact rfl) ?_ | refine s_lss (by exact rfl) (by exact rfl) (by exact rfl) ?_ | refine s_len (by exact rfl) (by exact rfl) (by assumption) ?_ | refine c_exit ?_ | refine c_ret ?_ | refine k_then_exit ?_ | refine k_blk_eq ?_ | (refine c_cond_p (by exact rfl) (fun h => ?_) (fun h => ?_) <;> try (exfalso; omega))
    obtain rfl : i = cs.length := by omega
    rw [List.take_length]
    refine ret1 [0] rfl rfl rfl rfl
theorem refPlane_ok (n : Int) (v : Value) (es : List E) (vr : Value) (hr0 : List Value) (R : List (List Nat)) (o lab : Nat → Nat) (w : World) (hs : Shp v es.length) (hr : RO w No v (esV es)) (hG : RightG n es) (hR : ROs w No vr hr0 R) (hRot : RotL n.toNat (tn es) R) (hL : Lev n.toNat (nb (tn es)) o lab) :
    Calls Tryz.prog 13 #[.agg #[.int .i64 n, v], vr] w (Post w No (Just (.int .i64 (planeR n.toNat (tn es) lab R)))) := by
  have hmany := hG.many
  have hsr := hR.shp
  have hrr := hR.ro
  refine enter0 (vs := [_, _]) Tryz.func13 rfl Tryz.ntmps13 rfl ?_
  repeat' first
    | refine k_then ?_ | refine c_seq ?_ | refine c_region ?_ | refine s_nil ?_ | refine s_move (by exact rfl) (by exact rfl) ?_ | refine s_assign (by exact rfl) (by exact rfl) ?_ | refine s_ldk_box (by exact rfl) (by exact rfl) (by exact .head _) (by exact rfl) (by exact rfl) ?_ | refine o_box (by exact rfl) (by exact rfl) (fun b => ?_)
  revert b; intro bg
  refine s_call (by exact rfl) (by exact rfl) (fun w h => refRotRight_ok n v es vr hr0 (intL R) w hs (ro_old h hr) (by omega) (rosI_old h hR.int)) ?_
  rw [rot_zero hG hRot]
  repeat' first
    | refine k_then ?_ | refine c_seq ?_ | refine c_region ?_ | refine s_nil ?_ | refine s_move (by exact rfl) (by exact rfl) ?_ | refine s_assign (by exact rfl) (by exact rfl) ?_ | refine s_neq (by exact rfl) (by exact rfl) (by exact rfl) ?_ | refine s_ldk_box (by exact rfl) (by exact rfl) (by exact .head _) (by exact rfl) (by exact rfl) ?_ | refine c_skip ?_ | (refine c_cond_p (by exact rfl) (fun h => ?_) (fun h => ?_) <;> try (exfalso; omega))
  refine o_call (by exact rfl) (by exact rfl) (fun w h => refEuler_ok n v es vr hr0 R o lab w hs (ro_old h hr) hG (ros_old h hR) hRot hL) ?_
  rintro vo _ rfl
  refine know_row (v := vo) (.head _) fun hvo _ => ?_
  unfold planeR
  generalize eulerL n.toNat (tn es) lab (facesR n.toNat (tn es) R) = l at *
  have hlm := hvo.1
  simp only [maxLen] at hlm
  repeat' first
    | refine k_then ?_ | refine c_seq ?_ | refine c_region ?_ | refine s_nil ?_ | refine s_assign (by exact rfl) (by exact rfl) ?_ | refine c_block ?_
  refine c_loop (fun k : Nat => k ≤ l.length ∧ ∀ x ∈ l.take k, x = 2) (fun k => [(6, vo), (7, .int .i64 (k : Int))]) (fun _ => [rowHP vo 3 1 l.length (iV l)]) (fun k => l.length - k) 0 [0] ⟨Nat.zero_le _, by simp⟩ (by exact rfl) ⟨rfl, rfl, trivial⟩ ?_
  rintro k ⟨hk, hq⟩
  by_cases hlt : k < l.length
  · obtain ⟨e, he⟩ : ∃ e, l[k]? = some e := ⟨_, List.getElem?_eq_getElem hlt⟩
    have hE : (iV l)[k * 1]? = some (.int .i64 e) := by rw [Nat.mul_one, iV, List.getElem?_map, he]; rfl
    by_cases h2 : e = 2
    · repeat' first
        | refine k_then ?_ | refine c_seq ?_ | refine c_region ?_ | refine s_nil ?_ | refine s_move (by exact rfl) (by exact rfl) ?_ | refine s_assign (by exact rfl) (by exact rfl) ?_ | refine s_lss (by exact rfl) (by exact rfl) (by exact rfl) ?_ | refine s_neq (by exact rfl) (by exact rfl) (by exact rfl) ?_ | refine s_add (by exact rfl) (by exact rfl) (by exact rfl) (by omega) ?_ | refine s_len (by exact rfl) (by exact rfl) (by assumption) ?_ | refine s_idx (by exact rfl) (by exact rfl) (by exact rfl) (by assumption) (by first | assumption | omega) ?_ | refine s_ld_row (by exact rfl) (by exact rfl) (by exact .head _) (by assumption) ?_ | refine c_block ?_ | refine c_skip ?_ | refine k_blk ?_ | (refine c_cond_p (by exact rfl) (fun h => ?_) (fun h => ?_) <;> try (exfalso; omega))
      refine c_round (k + 1) [0] (by exact rfl) ⟨rfl, rfl, trivial⟩ ⟨by omega, fun x hx => ?_⟩ (by omega)
      rw [List.take_add_one, he] at hx
      rcases List.mem_append.1 hx with hx | hx
      · exact hq x hx
      · obtain rfl : x = e := by simpa using hx
        exact h2
    · repeat' first
        | refine k_then ?_ | refine c_seq ?_ | refine c_region ?_ | refine s_nil ?_ | refine s_move (by exact rfl) (by exact rfl) ?_ | refine s_assign (by exact rfl) (by exact rfl) ?_ | refine s_lss (by exact rfl) (by exact rfl) (by exact rfl) ?_ | refine s_neq (by exact rfl) (by exact rfl) (by exact rfl) ?_ | refine s_len (by exact rfl) (by exact rfl) (by assumption) ?_ | refine s_idx (by exact rfl) (by exact rfl) (by exact rfl) (by assumption) (by first | assumption | omega) ?_ | refine s_ld_row (by exact rfl) (by exact rfl) (by exact .head _) (by assumption) ?_ | refine c_block ?_ | refine c_skip ?_ | refine c_ret ?_ | refine k_then_ret ?_ | refine k_blk_ret ?_ | (refine c_cond_p (by exact rfl) (fun h => ?_) (fun h => ?_) <;> try (exfalso; omega))
      refine ret1 [] rfl rfl rfl ⟨?_, rfl⟩
      rw [if_pos (List.any_eq_true.2 ⟨e, List.mem_of_getElem? he, decide_eq_true h2⟩)]
  · repeat' first
      | refine k_then ?_ | refine c_seq ?_ | refine c_region ?_ | refine s_nil ?_ | refine s_move (by exact rfl) (by exact rfl) ?_ | refine s_assign (by exact rfl) (by exact rfl) ?_ | refine s_lss (by exact rfl) (by exact rfl) (by exact rfl) ?_ | refine s_len (by exact rfl) (by exact rfl) (by assumption) ?_ | refine c_exit ?_ | refine c_ret ?_ | refine k_then_exit ?_ | refine k_blk_eq ?_ | (refine c_cond_p (by exact rfl) (fun h => ?_) (fun h => ?_) <;> try (exfalso; omega))
    rw [List.take_of_length_le (by omega)] at hq
    refine ret1 [] rfl rfl rfl ⟨?_, rfl⟩
    rw [if_neg]
    rw [List.any_eq_true]
    rintro ⟨x, hx, hne⟩
    exact of_decide_eq_true hne (hq x hx)
theorem refPlane_no (n : Int) (v : Value) (es : List E) (vr : Value) (hr0 : List Value) (ls : List (List Int)) (w : World) (hs : Shp v es.length) (hr : RO w No v (esV es)) (hm : es.length < 4611686018427387904) (hR : ROsI w No vr hr0 ls) (hk : rotK n es ls ≠ 0) :
    Calls Tryz.prog 13 #[.agg #[.int .i64 n, v], vr] w (Post w No (Just (.int .i64 (rotK n es ls)))) := by
  have hsr := hR.shp
  have hrr := hR.ro
  refine enter0 (vs := [_, _]) Tryz.func13 rfl Tryz.ntmps13 rfl ?_
  repeat' first
    | refine k_then ?_ | refine c_seq ?_ | refine c_region ?_ | refine s_nil ?_ | refine s_move (by exact rfl) (by exact rfl) ?_ | refine s_assign (by exact rfl) (by exact rfl) ?_ | refine s_ldk_box (by exact rfl) (by exact rfl) (by exact .head _) (by exact rfl) (by exact rfl) ?_ | refine o_box (by exact rfl) (by exact rfl) (fun b => ?_)
  refine s_call (by exact rfl) (by exact rfl) (fun w h => refRotRight_ok n v es vr hr0 ls w hs (ro_old h hr) hm (rosI_old h hR)) ?_
  repeat' first
    | refine k_then ?_ | refine c_seq ?_ | refine c_region ?_ | refine s_nil ?_ | refine s_move (by exact rfl) (by exact rfl) ?_ | refine s_assign (by exact rfl) (by exact rfl) ?_ | refine s_neq (by exact rfl) (by exact rfl) (by exact rfl) ?_ | refine c_ret ?_ | refine k_then_ret ?_ | (refine c_cond_p (by exact rfl) (fun h => ?_) (fun h => ?_) <;> try (exfalso; omega))
  refine ret1 [] rfl rfl rfl ⟨rfl, rfl⟩
end Go.Proofs.YtpajjnkmaebhcabGreat
end
section
set_option linter.unusedVariables false
namespace Fil
open Go.Sl
structure GInv (N : Nat) (A : Nat → List Nat) (c : List Int) : Prop where
  len : c.length = N
  deg : ∀ u, u < N → c.getD u 0 ≤ (A u).length
  ne : ∀ u, u < N → ∀ v ∈ A u, 0 ≤ c.getD u 0 → c.getD u 0 ≠ c.getD v 0
theorem getDI_set {c : List Int} {v : Nat} (hv : v < c.length) (x : Int) (u : Nat) : (c.set v x).getD u 0 = if u = v then x else c.getD u 0 := by
  rw [List.getD_eq_getElem?_getD, List.getElem?_set]
  by_cases h : v = u
  · subst h
    rw [if_pos rfl, if_pos hv, if_pos rfl]; rfl
  · rw [if_neg h, if_neg (fun e => h e.symm), List.getD_eq_getElem?_getD]
/-- all vertices, each once -/
structure OrdI (N : Nat) (l : List Int) : Prop where
  len : l.length = N
  nd : l.Nodup
  lt : ∀ x ∈ l, 0 ≤ x ∧ x < N
theorem OrdI.mem {N : Nat} {l : List Int} (h : OrdI N l) {u : Nat} (hu : u < N) : (u : Int) ∈ l := by
  have hp := perm_of_sub (m := (List.range N).map fun k : Nat => (k : Int)) h.nd (fun x hx => by
    obtain ⟨h1, h2⟩ := h.lt x hx
    exact List.mem_map.2 ⟨x.toNat, List.mem_range.2 (by omega), by omega⟩) (by rw [List.length_map, List.length_range, h.len]; omega)
  exact hp.mem_iff.2 (List.mem_map.2 ⟨u, List.mem_range.2 hu, rfl⟩)
/-- two of a list change places -/
theorem getDI_in {l : List Int} {k : Nat} (h : k < l.length) : l.getD k 0 = l[k] := by rw [List.getD_eq_getElem?_getD, List.getElem?_eq_getElem h]; rfl
def swapI (l : List Int) (x y : Nat) : List Int := (l.set x (l.getD y 0)).set y (l.getD x 0)
theorem swapI_length (l : List Int) (x y : Nat) : (swapI l x y).length = l.length := by simp [swapI]
theorem swapI_get {l : List Int} {x y : Nat} (hx : x < l.length) (hy : y < l.length) (u : Nat) : (swapI l x y).getD u 0 = if u = y then l.getD x 0 else if u = x then l.getD y 0 else l.getD u 0 := by
  rw [swapI, getDI_set (by simpa using hy), getDI_set hx]
theorem OrdI.swap {N : Nat} {l : List Int} (h : OrdI N l) {x y : Nat} (hx : x < N) (hy : y < N) : OrdI N (swapI l x y) := by
  have hl := h.len
  have hlt : ∀ k, k < N → 0 ≤ l.getD k 0 ∧ l.getD k 0 < N := fun k hk => h.lt _ (by rw [getDI_in (by omega)]; exact List.getElem_mem _)
  have hinj : ∀ i j, i < N → j < N → l.getD i 0 = l.getD j 0 → i = j := fun i j hi hj e => by
    rw [getDI_in (by omega), getDI_in (by omega)] at e
    have := congrArg l.idxOf e
    rwa [h.nd.idxOf_getElem, h.nd.idxOf_getElem] at this
  have hg := swapI_get (l := l) (x := x) (y := y) (by omega) (by omega)
  have hsl : (swapI l x y).length = N := by rw [swapI_length, hl]
  refine ⟨hsl, ?_, fun z hz => ?_⟩
  · rw [List.nodup_iff_pairwise_ne, List.pairwise_iff_getElem]
    intro i j hi hj hij e
    rw [← getDI_in hi, ← getDI_in hj, hg, hg] at e
    have q1 := hinj x y hx hy
    have q2 := hinj x j hx (by omega)
    have q3 := hinj y j hy (by omega)
    have q4 := hinj i x (by omega) hx
    have q5 := hinj i y (by omega) hy
    have q6 := hinj i j (by omega) (by omega)
    have q7 := hinj y x hy hx
    repeat' split at e
    all_goals first | omega | (have := q1 e; omega) | (have := q2 e; omega) | (have := q3 e; omega) | (have := q4 e; omega) | (have := q5 e; omega) | (have := q6 e; omega) | (have := q7 e; omega)
  · obtain ⟨i, hi, rfl⟩ := List.getElem_of_mem hz
    rw [← getDI_in hi, hg]
    repeat' split
    all_goals exact hlt _ (by omega)
theorem OrdI.upto (N : Nat) : OrdI N ((List.range N).map fun k : Nat => (k : Int)) := ⟨by simp, by
  rw [List.Nodup, List.pairwise_map]
  exact List.nodup_range.imp fun h e => h (by omega), fun x hx => by
  obtain ⟨k, hk, rfl⟩ := List.mem_map.1 hx
  have := List.mem_range.1 hk
  omega⟩
end Fil
end
section
set_option linter.unusedVariables false
namespace Fil
open Go.Sl
end Fil
namespace Go.Proofs.YtpajjnkmaebhcabGreat
open Go Go.RowKit Go.Sl Fil
set_option maxRecDepth 100000
set_option maxHeartbeats 8000000
set_option linter.unusedVariables false
set_option linter.unusedSimpArgs false
attribute [local irreducible] Code.wp wpList bodyPost wpQuiet Exit.then Exit.inBlock Post wpAnyH wpOp
theorem Upto_ok (N : Nat) (w : World) (hN : N ≤ 1048576) :
    Calls Tryz.prog 15 #[.int .i64 (N : Int)] w (Post w No fun r L' => L' = [rowHP r 3 1 N (iV ((List.range N).map fun k : Nat => (k : Int)))]) := by
  refine enter0 (vs := [_]) Tryz.func15 rfl Tryz.ntmps15 rfl ?_
  repeat' first
    | refine k_then ?_ | refine c_seq ?_ | refine c_region ?_ | refine s_nil ?_ | refine s_assign (by exact rfl) (by exact rfl) ?_ | refine c_block ?_ | fail
  refine c_nil 3 1 ?_
  refine c_loop (fun x : Nat × Value => x.1 ≤ N) (fun x => [(0, .int .i64 (N : Int)), (3, x.2), (4, .int .i64 (x.1 : Int))]) (fun x => [rowHP x.2 3 1 x.1 (iV ((List.range x.1).map fun k : Nat => (k : Int)))]) (fun x => N - x.1) (0, .slice none 0 0) [0] (Nat.zero_le _) (by exact rfl) ⟨rfl, rfl, rfl, trivial⟩ ?_
  rintro ⟨k, vo⟩ hk
  dsimp only at hk ⊢
  refine know_row (v := vo) (.head _) fun hvo _ => ?_
  by_cases hlt : k < N
  · have htk : iV ((List.range (k + 1)).map fun k : Nat => (k : Int)) = iV ((List.range k).map fun k : Nat => (k : Int)) ++ [.int .i64 (k : Int)] := by rw [List.range_succ, List.map_append]; simp [iV]
    repeat' first
      | refine k_then ?_ | refine c_seq ?_ | refine c_region ?_ | refine s_nil ?_ | refine s_move (by exact rfl) (by exact rfl) ?_ | refine s_lss (by exact rfl) (by exact rfl) (by exact rfl) ?_ | refine c_block ?_ | refine c_skip ?_ | (refine c_cond_p (by exact rfl) (fun h => ?_) (fun h => ?_) <;> try (exfalso; omega)) | fail
    refine o_mk [.int .i64 (k : Int)] (by exact rfl) (by exact rfl) rfl (by simp [Value.cells]) (by simp) (by simp) fun va hva => ?_
    skip
    refine o_append_row (i := 1) (by exact rfl) (by exact rfl) (by exact rfl) (by exact rfl) (by exact .head _) (by exact rfl) (by simp [Value.cells, Value.oneCell']) (by omega) fun vu2 hvu2 => ?_
    repeat' first
      | refine k_then ?_ | refine c_region ?_ | refine s_nil ?_ | refine s_move (by exact rfl) (by exact rfl) ?_ | refine s_assign (by exact rfl) (by exact rfl) ?_ | refine s_add (by exact rfl) (by exact rfl) (by exact rfl) (by omega) ?_ | refine k_blk ?_ | fail
    refine c_round (k + 1, vu2) [1] (by dsimp only; rw [htk]; exact rfl) ⟨rfl, rfl, rfl, trivial⟩ (by dsimp only; omega) (by dsimp only; omega)
  · repeat' first
      | refine k_then ?_ | refine c_seq ?_ | refine c_region ?_ | refine s_nil ?_ | refine s_move (by exact rfl) (by exact rfl) ?_ | refine s_assign (by exact rfl) (by exact rfl) ?_ | refine s_lss (by exact rfl) (by exact rfl) (by exact rfl) ?_ | refine c_exit ?_ | refine c_ret ?_ | refine k_then_exit ?_ | refine k_blk_eq ?_ | (refine c_cond_p (by exact rfl) (fun h => ?_) (fun h => ?_) <;> try (exfalso; omega)) | fail
    obtain rfl : k = N := by omega
    refine ret1 [0] rfl rfl (by exact rfl) rfl
end Go.Proofs.YtpajjnkmaebhcabGreat
end
section
set_option linter.unusedVariables false
namespace Fil
end Fil
namespace Fil
/-- the first k rows, from behind -/
def mirK (ls : List (List Int)) (k : Nat) : List (List Int) := (ls.take k).map List.reverse ++ List.replicate (ls.length - k) []
theorem mirK_zero (ls : List (List Int)) : mirK ls 0 = List.replicate ls.length [] := by simp [mirK]
theorem mirK_all (ls : List (List Int)) : mirK ls ls.length = ls.map List.reverse := by simp [mirK]
theorem mirK_length {ls : List (List Int)} {k : Nat} (h : k ≤ ls.length) : (mirK ls k).length = ls.length := by simp [mirK]; omega
theorem mirK_at {ls : List (List Int)} {k : Nat} (h : k < ls.length) : (mirK ls k)[k]? = some [] := by
  rw [mirK, List.getElem?_append_right (by simp; omega)]
  simp
  rw [List.getElem?_replicate, if_pos (by omega)]
theorem mirK_set {ls : List (List Int)} {k : Nat} {l : List Int} (h : ls[k]? = some l) : (mirK ls k).set k l.reverse = mirK ls (k + 1) := by
  have hk := (List.getElem?_eq_some_iff.1 h).1
  have e1 : ls.length - k = (ls.length - (k + 1)) + 1 := by omega
  rw [mirK, mirK, e1, List.replicate_succ, List.set_append_right _ _ (by simp; omega), List.take_add_one, h]
  simp only [List.length_map, List.length_take, Option.toList_some, List.map_append, List.map_cons, List.map_nil, List.append_assoc]
  rw [show k - min k ls.length = 0 by omega]
  rfl
end Fil
namespace Go.Sl
open Go Go.RowKit Fil
def rowI (h : Value) (l : List Int) : HP := rowHP h 3 1 l.length (iV l)
end Go.Sl
namespace Go.Proofs.YtpajjnkmaebhcabGreat
open Go Go.RowKit Go.Sl Fil
set_option maxRecDepth 100000
set_option maxHeartbeats 8000000
set_option linter.unusedVariables false
set_option linter.unusedSimpArgs false
attribute [local irreducible] Code.wp wpList bodyPost wpQuiet Exit.then Exit.inBlock Post wpAnyH wpOp
/-- the first j of a list, from behind -/
theorem refMirror_ok (vr : Value) (hr0 : List Value) (ls : List (List Int)) (w : World) (hR : ROsI w No vr hr0 ls) (hN : ls.length ≤ 1048576) (hle : ∀ l ∈ ls, l.length ≤ 1048576) :
    Calls Tryz.prog 17 #[vr] w (Post w No fun r L' => ∃ ho : List Value, ho.length = ls.length ∧ L' = [rowHP r 28 1 ls.length ho, starHP (kids rowI ho (ls.map List.reverse))]) := by
  have hsr := hR.shp
  have hrr := hR.ro
  refine enter0 (vs := [_]) Tryz.func17 rfl Tryz.ntmps17 rfl ?_
  repeat' first
    | refine k_then ?_ | refine c_seq ?_ | refine c_region ?_ | refine s_nil ?_ | refine s_move (by exact rfl) (by exact rfl) ?_ | refine s_assign (by exact rfl) (by exact rfl) ?_ | refine s_len (by exact rfl) (by exact rfl) (by assumption) ?_ | fail
  refine o_make (by exact rfl) (by exact rfl) (by exact rfl) (by omega) (by omega) fun vo hvo => ?_
  repeat' first
    | refine k_then ?_ | refine c_seq ?_ | refine c_region ?_ | refine s_nil ?_ | refine s_assign (by exact rfl) (by exact rfl) ?_ | refine c_block ?_ | fail
  refine c_nils 3 1 ls.length ?_
  refine c_loop (fun x : Nat × List Value => x.1 ≤ ls.length ∧ x.2.length = ls.length) (fun x => [(0, vr), (3, vo), (4, .int .i64 (x.1 : Int))])
    (fun x => [rowHP vo 28 1 ls.length x.2, starHP (kids rowI x.2 (mirK ls x.1))]) (fun x => ls.length - x.1) (0, List.replicate ls.length (.slice none 0 0)) [1, 0] ⟨Nat.zero_le _, by simp⟩ ?_ ⟨rfl, rfl, rfl, trivial⟩ ?_
  · have z1 : (madeCells (Value.slice none 0 0).cells ((ls.length : Int).toNat * 1)).toList = List.replicate ls.length (.slice none 0 0) := by rw [made1 rfl]; rfl
    rw [z1, mirK_zero, kids_nils]
    exact rfl
  rintro ⟨k, ho⟩ ⟨hk, hol⟩
  dsimp only at hk hol ⊢
  by_cases hlt : k < ls.length
  · obtain ⟨hx, hhx⟩ : ∃ x, hr0[k]? = some x := ⟨_, List.getElem?_eq_getElem (by have := hR.len; omega)⟩
    obtain ⟨l, hl⟩ : ∃ l, ls[k]? = some l := ⟨_, List.getElem?_eq_getElem hlt⟩
    obtain ⟨hsx, hrx⟩ := hR.kid k hx l hhx hl
    have h1' : hr0[k * 1]? = some hx := by rw [Nat.mul_one]; exact hhx
    have hml := mirK_length hk
    have hlm := hle l (List.mem_of_getElem? hl)
    repeat' first
      | refine k_then ?_ | refine c_seq ?_ | refine c_region ?_ | refine s_nil ?_ | refine s_move (by exact rfl) (by exact rfl) ?_ | refine s_assign (by exact rfl) (by exact rfl) ?_ | refine s_lss (by exact rfl) (by exact rfl) (by exact rfl) ?_ | refine s_sub (by exact rfl) (by exact rfl) (by exact rfl) (by omega) ?_ | refine s_len (by exact rfl) (by exact rfl) (by assumption) ?_ | refine s_idx (by exact rfl) (by exact rfl) (by exact rfl) (by assumption) (by first | assumption | omega) ?_ | refine s_ld_ro (by exact rfl) (by exact rfl) (by assumption) (by assumption) ?_ | refine c_block ?_ | refine c_skip ?_ | (refine c_cond_p (by exact rfl) (fun h => ?_) (fun h => ?_) <;> try (exfalso; omega)) | fail
    refine c_loop (fun x : Nat × List Value => x.1 ≤ l.length ∧ x.2.length = ls.length) (fun x => [(0, vr), (3, vo), (4, .int .i64 (k : Int)), (5, .int .i64 ((l.length : Int) - 1 - (x.1 : Int)))])
      (fun x => [rowHP vo 28 1 ls.length x.2, starHP (kids rowI x.2 ((mirK ls k).set k (l.reverse.take x.1)))]) (fun x => l.length - x.1) (0, ho) [0, 0] ⟨Nat.zero_le _, hol⟩ ?_ (by rw [show (l.length : Int) - 1 - ((0 : Nat) : Int) = (l.length : Int) - 1 by omega]; exact ⟨rfl, rfl, rfl, rfl, trivial⟩) ?_
    · rw [List.take_zero, show (mirK ls k).set k [] = mirK ls k from List.ext_getElem? fun j => by
        rw [List.getElem?_set]
        by_cases e : k = j
        · subst e
          rw [if_pos rfl, if_pos (by rw [hml]; exact hlt), mirK_at hlt]
        · rw [if_neg e]]
      exact rfl
    rintro ⟨j, hj⟩ ⟨hjl, hjo⟩
    dsimp only at hjl hjo ⊢
    by_cases hjk : j < l.length
    · have g1 := iV_get (l := l) (k := l.length - 1 - j) (by omega)
      have e1 : (l.length : Int) - 1 - (j : Int) = ((l.length - 1 - j : Nat) : Int) := by omega
      have htk : l.reverse.take (j + 1) = l.reverse.take j ++ [l.getD (l.length - 1 - j) 0] := by
        rw [List.take_add_one, List.getElem?_reverse hjk, List.getD_eq_getElem?_getD, List.getElem?_eq_getElem (by omega)]; rfl
      have hln : (l.reverse.take j).length = j := by rw [List.length_take, List.length_reverse]; omega
      obtain ⟨hd, hhd⟩ : ∃ hd, hj[k * 1]? = some hd := ⟨_, List.getElem?_eq_getElem (by omega)⟩
      have hkid : ((mirK ls k).set k (l.reverse.take j))[k]? = some (l.reverse.take j) := by rw [List.getElem?_set, if_pos rfl, if_pos (by omega)]
      rw [e1]
      repeat' first
        | refine k_then ?_ | refine c_seq ?_ | refine c_region ?_ | refine s_nil ?_ | refine s_move (by exact rfl) (by exact rfl) ?_ | refine s_geq (by exact rfl) (by exact rfl) (by exact rfl) ?_ | refine c_block ?_ | refine c_skip ?_ | (refine c_cond_p (by exact rfl) (fun h => ?_) (fun h => ?_) <;> try (exfalso; omega)) | fail
      refine c_take 1 k (by exact rfl) (kids_get (f := rowI) (by simpa using hhd) hkid) ?_
      refine p_begin [(0, true), (1, true), (2, true), (3, true), (4, true), (6, true), (7, true), (8, true), (9, true), (10, true), (11, true), (12, true), .rd 5 13, (14, false), (15, true), (16, false)] [] (by kernel_rfl) ?_
      repeat' first
        | (refine p_at (by exact rfl) ?_
           first
            | refine t_move (by exact rfl) (by exact rfl) (by exact fun _ h => h.tl.tl.tl) ?_ | refine t_idx (by exact rfl) (by exact rfl) (by exact rfl) (by assumption) (by first | assumption | omega) (by exact fun _ h => h.tl.tl.tl) ?_ | refine t_ld_ro (by exact rfl) (by exact rfl) (by assumption) (by assumption) (by exact fun _ h => h.tl.tl.tl) ?_ | fail)
        | fail
      refine p_rd ?_ ?_
      all_goals
        repeat' first
          | (refine p_at (by exact rfl) ?_
             first
              | refine r_ld_row (by exact rfl) (by exact rfl) (by exact .tail _ (.head _)) (by assumption) (by exact fun _ h => h.tl.tl.tl) ?_ | fail)
          | fail
        refine p_mk [_] (by exact rfl) rfl (by exact rfl) rfl ?_ ?_ (by simp) (fun w A h => h.pick [] (by exact rfl)) (fun sx hsx => ?_)
        · simp [Value.cells]
        · simp
        repeat' first
          | (refine p_at (by exact rfl) ?_
             first
              | refine r_ld_row (by exact rfl) (by exact rfl) (by exact .tail _ (.tail _ (.head _))) (by assumption) (by exact fun _ h => h.tl.tl.tl.tl) ?_ | fail)
          | fail
        refine p_append_row (j := 1) (by exact rfl) rfl (by exact rfl) (by exact rfl) (by exact rfl) (by exact .head _) (by exact rfl) (by simp [Value.cells, Value.oneCell']) ?_ (fun w v h => h.pick [] (by exact rfl)) (fun vk hvk => ?_)
        · simp only [List.length_cons, List.length_nil]; omega
        repeat' first
          | (refine p_at (by exact rfl) ?_
             first
              | refine t_idx (by exact rfl) (by exact rfl) (by exact rfl) (by assumption) (by first | assumption | omega) (by exact fun _ h => h.tl.tl.tl.tl) ?_ | fail)
          | fail
        refine p_st_row (j := 2) (by exact rfl) (by exact rfl) (by exact rfl) (by exact rfl) hvk.one (by omega) (fun w h => h.pick [] (by exact rfl)) ?_
        repeat' first
          | refine p_nil ?_ | fail
        repeat' first
          | refine k_then ?_ | refine c_region ?_ | refine s_nil ?_ | refine s_move (by exact rfl) (by exact rfl) ?_ | refine s_assign (by exact rfl) (by exact rfl) ?_ | refine s_sub (by exact rfl) (by exact rfl) (by exact rfl) (by omega) ?_ | refine k_blk ?_ | fail
        refine c_pick [1, 1, 1] (by exact rfl) ?_
        have e2 : rowHP vk 3 1 ((l.reverse.take j).length + 1) (iV (l.reverse.take j) ++ [Value.int .i64 (l.getD (l.length - 1 - j) 0)]) = rowI vk (l.reverse.take (j + 1)) := by
          rw [htk, rowI, List.length_append, show ∀ a b : List Int, iV (a ++ b) = iV a ++ iV b from fun a b => by simp [iV]]; rfl
        refine c_give 1 k (by exact rfl) (by simp [kids, hjo, hml]; omega) ?_
        refine c_round (j + 1, hj.set k vk) [0, 0] ?_ (by rw [show (l.length : Int) - 1 - ((j + 1 : Nat) : Int) = ((l.length - 1 - j : Nat) : Int) - 1 by omega]; exact ⟨rfl, rfl, rfl, rfl, trivial⟩) ⟨by dsimp only; omega, by dsimp only; rw [List.length_set]; exact hjo⟩ (by dsimp only; omega)
        dsimp only
        rw [show (mirK ls k).set k (l.reverse.take (j + 1)) = ((mirK ls k).set k (l.reverse.take j)).set k (l.reverse.take (j + 1)) from by rw [List.set_set], ← kids_set (x := empHP), ← e2, Nat.mul_one]
        exact rfl
    · repeat' first
        | refine k_then ?_ | refine c_seq ?_ | refine c_region ?_ | refine s_nil ?_ | refine s_move (by exact rfl) (by exact rfl) ?_ | refine s_assign (by exact rfl) (by exact rfl) ?_ | refine s_geq (by exact rfl) (by exact rfl) (by exact rfl) ?_ | refine s_add (by exact rfl) (by exact rfl) (by exact rfl) (by omega) ?_ | refine c_exit ?_ | refine k_then_exit ?_ | refine k_blk ?_ | refine k_blk_eq ?_ | (refine c_cond_p (by exact rfl) (fun h => ?_) (fun h => ?_) <;> try (exfalso; omega)) | fail
      refine c_round (k + 1, hj) [0, 0] ?_ ⟨rfl, rfl, rfl, trivial⟩ ⟨by dsimp only; omega, hjo⟩ (by dsimp only; omega)
      dsimp only
      rw [List.take_of_length_le (by rw [List.length_reverse]; omega), mirK_set hl]
      exact rfl
  · repeat' first
      | refine k_then ?_ | refine c_seq ?_ | refine c_region ?_ | refine s_nil ?_ | refine s_move (by exact rfl) (by exact rfl) ?_ | refine s_assign (by exact rfl) (by exact rfl) ?_ | refine s_lss (by exact rfl) (by exact rfl) (by exact rfl) ?_ | refine s_len (by exact rfl) (by exact rfl) (by assumption) ?_ | refine c_exit ?_ | refine c_ret ?_ | refine k_then_exit ?_ | refine k_blk_eq ?_ | (refine c_cond_p (by exact rfl) (fun h => ?_) (fun h => ?_) <;> try (exfalso; omega)) | fail
    obtain rfl : k = ls.length := by omega
    refine ret1 [0, 0] rfl rfl rfl ⟨ho, hol, ?_⟩
    rw [mirK_all]
end Go.Proofs.YtpajjnkmaebhcabGreat
end
section
set_option linter.unusedVariables false
namespace Go.Proofs
open Go.Shelf
end Go.Proofs
namespace Go.Proofs.YtpajjnkmaebhcabGreat
open Go Go.RowKit Go.Sl Fil Go.Sort Go.Shelf
end Go.Proofs.YtpajjnkmaebhcabGreat
end
section
namespace Fil
def swapE (e : E) : E := if e.2.1 < e.1 then (e.2.1, e.1, e.2.2) else e
def posE (g : List E) (e : E) : Nat → Nat
  | 0 => 0
  | k + 1 => if belowB e (g.getD k (0, 0, 0)) then posE g e k else k + 1
def insE (g : List E) (e : E) : List E := g.take (posE g e g.length) ++ [e] ++ g.drop (posE g e g.length)
def twE (g : List E) (e : E) : Bool := decide (0 < posE g e g.length) && !belowB (g.getD (posE g e g.length - 1) (0, 0, 0)) e
def makeF (n : Int) : List E → List E → Bool → Int × List E
  | [], g, tw => if tw then (7, []) else (0, g)
  | e :: l, g, tw => if aloneK n e.1 e.2.1 e.2.2 = 0 then makeF n l (insE g (swapE e)) (tw || twE g (swapE e)) else (aloneK n e.1 e.2.1 e.2.2, [])
def makeR (n : Int) (l : List E) : Int × List E := if sizesK n l.length = 0 then makeF n l [] false else (sizesK n l.length, [])
theorem posE_le (g : List E) (e : E) : ∀ k, posE g e k ≤ k
  | 0 => Nat.le_refl _
  | k + 1 => by
    rw [posE]
    have := posE_le g e k
    split <;> omega
theorem insE_length (g : List E) (e : E) : (insE g e).length = g.length + 1 := by
  have := posE_le g e g.length
  simp [insE]; omega
theorem makeF_at {n : Int} {l g : List E} {tw : Bool} {i : Nat} {e : E} (h : l[i]? = some e) : makeF n (l.drop i) g tw = if aloneK n e.1 e.2.1 e.2.2 = 0 then makeF n (l.drop (i + 1)) (insE g (swapE e)) (tw || twE g (swapE e)) else (aloneK n e.1 e.2.1 e.2.2, []) := by
  obtain ⟨h1, h2⟩ := List.getElem?_eq_some_iff.1 h
  rw [List.drop_eq_getElem_cons h1, h2]; rfl
end Fil
namespace Go.Proofs.YtpajjnkmaebhcabGreat
open Go Go.RowKit Go.Sl Fil
set_option maxRecDepth 100000
set_option maxHeartbeats 8000000
set_option linter.unusedVariables false
set_option linter.unusedSimpArgs false
attribute [local irreducible] Code.wp wpList bodyPost wpQuiet Exit.then Exit.inBlock Post wpAnyH wpOp
theorem eV_one (e : E) : ∀ u ∈ eV e, u.oneCell' = true := by
  intro u hu
  simp only [eV, List.mem_cons, List.not_mem_nil, or_false] at hu
  rcases hu with rfl | rfl | rfl <;> rfl
theorem esV_one (l : List E) : ∀ u ∈ esV l, u.oneCell' = true := by
  intro u hu
  obtain ⟨e, _, he⟩ := List.mem_flatMap.1 hu
  exact eV_one e u he
theorem esV_append (a b : List E) : esV (a ++ b) = esV a ++ esV b := by simp [esV]
theorem esV_take (l : List E) (k : Nat) : (esV l).take (k * 3) = esV (l.take k) := by
  induction l generalizing k with
  | nil => simp [esV]
  | cons a l ih =>
    cases k with
    | zero => simp [esV]
    | succ k =>
      rw [show (k + 1) * 3 = k * 3 + 1 + 1 + 1 by omega, List.take_succ_cons]
      show ((eV a) ++ esV l).take _ = eV a ++ esV (l.take k)
      simp only [eV, List.cons_append, List.nil_append, List.take_succ_cons, ih]
theorem esV_drop (l : List E) (k : Nat) : (esV l).drop (k * 3) = esV (l.drop k) := by
  induction l generalizing k with
  | nil => simp [esV]
  | cons a l ih =>
    cases k with
    | zero => simp
    | succ k =>
      rw [show (k + 1) * 3 = k * 3 + 1 + 1 + 1 by omega, List.drop_succ_cons]
      show ((eV a) ++ esV l).drop _ = esV (l.drop k)
      simp only [eV, List.cons_append, List.nil_append, List.drop_succ_cons, ih]
theorem refMake_ok (n : Int) (vl : Value) (l : List E) (w : World) (hs : Shp vl l.length) (hr : RO w No vl (esV l)) (hm : l.length ≤ 4194304) :
    Calls Tryz.prog 16 #[.int .i64 n, vl] w (Post w No fun r L' => ∃ vo, r = .tuple #[.agg #[.int .i64 (if (makeR n l).1 = 0 then n else 0), vo], .int .i64 (makeR n l).1] ∧ L' = [rowHP vo 37 3 (makeR n l).2.length (esV (makeR n l).2)]) := by
  have hmm : l.length < 4611686018427387904 := by omega
  refine enter0 (vs := [_, _]) Tryz.func16 rfl Tryz.ntmps16 rfl ?_
  repeat' first
    | refine k_then ?_ | refine c_seq ?_ | refine c_region ?_ | refine s_nil ?_ | refine s_move (by exact rfl) (by exact rfl) ?_ | refine s_assign (by exact rfl) (by exact rfl) ?_ | refine s_len (by exact rfl) (by exact rfl) (by assumption) ?_ | refine o_alloc (by exact rfl) (fun b => ?_)
  revert b; intro b4
  refine s_call (by exact rfl) (by exact rfl) (fun w h => many_ok n l.length w) ?_
  by_cases h0 : sizesK n l.length = 0
  · rw [h0]
    repeat' first
      | refine k_then ?_ | refine c_seq ?_ | refine c_region ?_ | refine s_nil ?_ | refine s_move (by exact rfl) (by exact rfl) ?_ | refine s_assign (by exact rfl) (by exact rfl) ?_ | refine s_neq (by exact rfl) (by exact rfl) (by exact rfl) ?_ | refine c_skip ?_ | (refine c_cond_p (by exact rfl) (fun h => ?_) (fun h => ?_) <;> try (exfalso; omega))
    refine o_build (cs := [.int .i64 n, .slice none 0 0]) [(0, .int .i64 n, [.int .i64 n])] (by exact rfl) (by exact rfl) (by simp [Value.cells]) (by exact rfl) ?_
    repeat' first
      | refine o_alloc (by exact rfl) (fun b => ?_)
    revert b; intro b7
    refine o_stk_box (i := 0) (us := [.int .i64 n, .slice none 0 0]) (by exact rfl) (by exact rfl) (by exact rfl) (by exact rfl) (by exact rfl) (by simp [Value.oneCell']) (by simp [Value.cells]) ?_
    repeat' first
      | refine k_then ?_ | refine c_seq ?_ | refine c_region ?_ | refine s_nil ?_ | refine s_assign (by exact rfl) (by exact rfl) ?_ | refine c_block ?_
    refine c_nil 37 3 ?_
    refine c_loop (fun x : Nat × List E × Bool × Value => x.1 ≤ l.length ∧ x.2.1.length = x.1 ∧ makeF n (l.drop x.1) x.2.1 x.2.2.1 = makeR n l) (fun x => [(0, .int .i64 n), (1, vl), (4, .pointer (some ⟨b4, 0, none⟩)), (5, .int .i64 0), (7, .pointer (some ⟨b7, 0, none⟩)), (8, .bool x.2.2.1), (9, .int .i64 (x.1 : Int))])
      (fun x => [rowHP x.2.2.2 37 3 x.2.1.length (esV x.2.1), boxHP b7 24 [.int .i64 n, x.2.2.2], boxHP b4 24 [.int .i64 0, .slice none 0 0]]) (fun x => l.length - x.1) (0, [], false, .slice none 0 0) [0, 0, 0] ⟨Nat.zero_le _, rfl, by rw [makeR, if_pos h0]; rfl⟩ (by exact rfl) ⟨rfl, rfl, rfl, rfl, rfl, rfl, rfl, trivial⟩ ?_
    rintro ⟨i, g, tw, vg⟩ ⟨hi, hgl, hmk⟩
    dsimp only at hi hgl hmk ⊢
    by_cases hil : i < l.length
    · obtain ⟨e, he⟩ : ∃ e, l[i]? = some e := ⟨_, List.getElem?_eq_getElem hil⟩
      have hE := esV_at he
      rw [makeF_at he] at hmk
      refine know_row (v := vg) (.head _) fun hvg _ => ?_
      repeat' first
        | refine k_then ?_ | refine c_seq ?_ | refine c_region ?_ | refine s_nil ?_ | refine s_move (by exact rfl) (by exact rfl) ?_ | refine s_lss (by exact rfl) (by exact rfl) (by exact rfl) ?_ | refine s_len (by exact rfl) (by exact rfl) (by assumption) ?_ | refine s_idx (by exact rfl) (by exact rfl) (by exact rfl) (by assumption) (by first | assumption | omega) ?_ | refine s_ldk_ro (by exact rfl) (by exact rfl) (by assumption) (by decide) (by assumption) (by exact rfl) ?_ | refine o_alloc (by exact rfl) (fun b => ?_) | refine c_block ?_ | refine c_skip ?_ | (refine c_cond_p (by exact rfl) (fun h => ?_) (fun h => ?_) <;> try (exfalso; omega))
      revert b; intro b10
      refine o_stk_box (i := 0) (us := eV e) (by exact rfl) (by exact rfl) (by exact rfl) (by exact rfl) (by exact rfl) (eV_one e) (by simp [Value.cells]) ?_
      repeat' first
        | refine k_then ?_ | refine c_seq ?_ | refine c_region ?_ | refine s_nil ?_ | refine s_move (by exact rfl) (by exact rfl) ?_ | refine s_ldk_box (by exact rfl) (by exact rfl) (by exact .head _) (by exact rfl) (by exact rfl) ?_
      refine s_call (vs := [.int .i64 n, .agg (eV e).toArray]) (by exact rfl) (by exact rfl) (fun w h => edge_ok n e w) ?_
      by_cases ha : aloneK n e.1 e.2.1 e.2.2 = 0
      · rw [if_pos ha] at hmk
        rw [ha]
        refine c_pick [1, 1, 1, 0] (by exact rfl) ?_
        generalize hreg : Code.cond (Operand.tmp 44) _ _ = ccond
        repeat' first
          | refine k_then ?_ | refine c_seq ?_ | refine c_region ?_ | refine s_nil ?_ | refine s_move (by exact rfl) (by exact rfl) ?_ | refine s_assign (by exact rfl) (by exact rfl) ?_ | refine s_fa (by exact rfl) (by exact rfl) ?_ | refine s_ld_box (by exact rfl) (by exact rfl) (by exact .tail _ (.tail _ (.tail _ (.head _)))) (by exact rfl) ?_ | refine s_gtr (by exact rfl) (by exact rfl) (by exact rfl) ?_ | refine s_neq (by exact rfl) (by exact rfl) (by exact rfl) ?_ | refine c_skip ?_ | (refine c_cond_p (by exact rfl) (fun h => ?_) (fun h => ?_) <;> try (exfalso; omega))
        subst hreg
        refine c_join (X := Unit) (fun _ => [(0, .int .i64 n), (1, vl), (4, .pointer (some ⟨b4, 0, none⟩)), (5, .int .i64 0), (7, .pointer (some ⟨b7, 0, none⟩)), (8, .bool tw), (9, .int .i64 (i : Int)), (10, .pointer (some ⟨b10, 0, none⟩))]) (fun _ => [rowHP vg 37 3 g.length (esV g), boxHP b7 24 [.int .i64 n, vg], boxHP b4 24 [.int .i64 0, .slice none 0 0], boxHP b10 37 (eV (swapE e))]) (fun K hk => ?_) (fun _ => ?_)
        · repeat' first
            | refine k_then ?_ | refine c_region ?_ | refine s_fa (by exact rfl) (by exact rfl) ?_ | refine s_ld_box (by exact rfl) (by exact rfl) (by exact .tail _ (.tail _ (.tail _ (.head _)))) (by exact rfl) ?_ | refine c_skip ?_ | (refine c_cond_p (by exact rfl) (fun h => ?_) (fun h => ?_) <;> try (exfalso; omega))
          · refine o_build (cs := eV (swapE e)) [(0, .int .i64 e.2.1, [.int .i64 e.2.1]), (1, .int .i64 e.1, [.int .i64 e.1]), (2, .int .i64 e.2.2, [.int .i64 e.2.2])] (by exact rfl) (by exact rfl) (by simp [Value.cells]) (by rw [swapE, if_pos (by assumption)]; exact rfl) ?_
            skip
            refine o_stk_box (i := 3) (us := eV (swapE e)) (by exact rfl) (by exact rfl) (by exact rfl) (by exact rfl) (by exact rfl) (eV_one _) (by simp [Value.cells, eV, putL]) ?_
            repeat' first
              | refine k_then ?_ | refine s_nil ?_
            exact j_end hk () [0, 0, 0, 0] (by exact rfl) ⟨rfl, rfl, rfl, rfl, rfl, rfl, rfl, rfl, trivial⟩
          · exact j_end hk () [0, 0, 0, 0] (by rw [swapE, if_neg (by assumption)]; exact rfl) ⟨rfl, rfl, rfl, rfl, rfl, rfl, rfl, rfl, trivial⟩
        generalize swapE e = x at *
        clear hE he ha
        have hple := posE_le g x g.length
        generalize hreg : Code.block 2 _ = cblk
        repeat' first
          | refine k_then ?_ | refine c_seq ?_ | refine c_region ?_ | refine s_nil ?_ | refine s_assign (by exact rfl) (by exact rfl) ?_ | refine s_fa (by exact rfl) (by exact rfl) ?_ | refine s_ld_box (by exact rfl) (by exact rfl) (by exact .tail _ (.head _)) (by exact rfl) ?_ | refine s_len (by exact rfl) (by exact rfl) (by assumption) ?_
        subst hreg
        refine c_join (X := Unit) (fun _ => [(0, .int .i64 n), (1, vl), (4, .pointer (some ⟨b4, 0, none⟩)), (5, .int .i64 0), (7, .pointer (some ⟨b7, 0, none⟩)), (8, .bool tw), (9, .int .i64 (i : Int)), (10, .pointer (some ⟨b10, 0, none⟩)), (12, .int .i64 (posE g x g.length : Int))]) (fun _ => [rowHP vg 37 3 g.length (esV g), boxHP b7 24 [.int .i64 n, vg], boxHP b4 24 [.int .i64 0, .slice none 0 0], boxHP b10 37 (eV x)]) (fun K hk => ?_) (fun _ => ?_)
        · repeat' first
            | refine c_block ?_
          refine c_loop (fun k : Nat => k ≤ g.length ∧ posE g x k = posE g x g.length) (fun k => [(0, .int .i64 n), (1, vl), (4, .pointer (some ⟨b4, 0, none⟩)), (5, .int .i64 0), (7, .pointer (some ⟨b7, 0, none⟩)), (8, .bool tw), (9, .int .i64 (i : Int)), (10, .pointer (some ⟨b10, 0, none⟩)), (12, .int .i64 (k : Int))]) (fun _ => _) (fun k => k) g.length (List.replicate _ 0) ⟨Nat.le_refl _, rfl⟩ (pick_id _) ⟨rfl, rfl, rfl, rfl, rfl, rfl, rfl, rfl, rfl, trivial⟩ ?_
          rintro k ⟨hk2, hpk⟩
          cases k with
          | zero =>
            repeat' first
              | refine c_seq ?_
            refine p_begin0 [(0, true), (1, true), (2, true), (3, true), (4, true), (5, true), (6, true), (7, true), (8, true), (9, true), (10, false), (11, true)] (by kernel_rfl) ?_
            repeat' first
              | refine p_nil ?_
              | (refine p_at (by exact rfl) ?_
                 first
                  | refine t_move (by exact rfl) (by exact rfl) (by exact fun _ h => h) ?_ | refine t_gtr (by exact rfl) (by exact rfl) (by exact rfl) (by exact fun _ h => h) ?_ | refine t_pick_f (by exact rfl) (by exact rfl) (by exact rfl) (by exact fun _ h => h) ?_ | (refine t_case (by exact rfl) (by exact rfl) (fun h => ?_) (fun h => ?_) <;> try (exfalso; omega)) | refine t_skip (by exact rfl) (by exact rfl) (by exact rfl) (by exact rfl) (by exact fun _ h => h) ?_ | refine t_skipl (by exact rfl) (by exact rfl) (by exact rfl) (by exact rfl) (by exact fun _ h => h) ?_)
            repeat' first
              | refine k_then ?_ | refine c_exit ?_ | refine k_then_exit ?_ | refine k_blk_eq ?_ | refine c_cond_f (by exact rfl) ?_
            exact j_end hk () [0, 0, 0, 0] (by exact rfl) (by rw [← hpk]; exact ⟨rfl, rfl, rfl, rfl, rfl, rfl, rfl, rfl, rfl, trivial⟩)
          | succ k =>
            obtain ⟨q, hq⟩ : ∃ q, g[k]? = some q := ⟨_, List.getElem?_eq_getElem (by omega)⟩
            have hQ := esV_at hq
            have hgq : g.getD k (0, 0, 0) = q := by rw [List.getD_eq_getElem?_getD, hq]; rfl
            have hkk : ((k + 1 : Nat) : Int) - 1 = (k : Int) := by omega
            have hQ2 : ((esV g).drop ((((k + 1 : Nat) : Int) - 1).toNat * 3)).take 3 = eV q := by rw [hkk]; exact hQ
            rw [posE, hgq] at hpk
            repeat' first
              | refine c_seq ?_
            refine p_begin0 [(0, true), (1, true), (2, true), (3, true), (4, true), (5, true), (6, true), (7, true), (8, true), (9, true), (10, false), (11, true)] (by kernel_rfl) ?_
            repeat' first
              | (refine p_at (by exact rfl) ?_
                 first
                  | refine t_move (by exact rfl) (by exact rfl) (by exact fun _ h => h) ?_ | refine t_gtr (by exact rfl) (by exact rfl) (by exact rfl) (by exact fun _ h => h) ?_ | refine tw_move (by exact rfl) (by exact rfl) (by exact rfl) (by exact rfl) (by exact fun _ h => h) ?_ | refine tw_fa (by exact rfl) (by exact rfl) (by exact rfl) (by exact rfl) (by exact fun _ h => h) ?_ | refine tw_ld_box (by exact rfl) (by exact rfl) (by exact rfl) (by exact rfl) (by exact .tail _ (.head _)) (by exact rfl) (by exact fun _ h => h) ?_ | refine tw_sub (by exact rfl) (by exact rfl) (by exact rfl) (by exact rfl) (by exact rfl) (by omega) (by exact fun _ h => h) ?_ | refine tw_idxi (by exact rfl) (by exact rfl) (by exact rfl) (by exact rfl) (by exact rfl) (by assumption) (by first | assumption | omega) (by exact fun _ h => h) ?_ | refine tw_ldk_box (by exact rfl) (by exact rfl) (by exact rfl) (by exact rfl) (by exact .tail _ (.tail _ (.tail _ (.head _)))) (by exact rfl) (by exact rfl) (by exact fun _ h => h) ?_ | refine tw_ldk_row (by exact rfl) (by exact rfl) (by exact rfl) (by exact rfl) (by exact .head _) (by decide) (by assumption) (by exact rfl) (by exact fun _ h => h) ?_ | (refine t_case (by exact rfl) (by exact rfl) (fun h => ?_) (fun h => ?_) <;> try (exfalso; omega)))
            refine p_callw (vs := [.agg (eV x).toArray, .agg (eV q).toArray]) (by exact rfl) (by exact rfl) (by exact rfl) rfl (by exact rfl) (fun w hs => below_ok x q w) (by exact fun _ h => h) ?_
            cases hbl : belowB x q
            · rw [hbl, if_neg (by simp)] at hpk
              repeat' first
                | refine p_nil ?_
                | (refine p_at (by exact rfl) ?_
                   first
                    | refine t_pick_t (by exact rfl) (by exact rfl) (by exact rfl) (by exact fun _ h => h) ?_)
              repeat' first
                | refine k_then ?_ | refine c_exit ?_ | refine k_then_exit ?_ | refine k_blk_eq ?_ | refine c_cond_f (by exact rfl) ?_
              exact j_end hk () [0, 0, 0, 0] (by exact rfl) (by rw [← hpk]; exact ⟨rfl, rfl, rfl, rfl, rfl, rfl, rfl, rfl, rfl, trivial⟩)
            · rw [hbl, if_pos rfl] at hpk
              repeat' first
                | refine p_nil ?_
                | (refine p_at (by exact rfl) ?_
                   first
                    | refine t_pick_t (by exact rfl) (by exact rfl) (by exact rfl) (by exact fun _ h => h) ?_)
              repeat' first
                | refine k_then ?_ | refine c_region ?_ | refine s_nil ?_ | refine s_move (by exact rfl) (by exact rfl) ?_ | refine s_assign (by exact rfl) (by exact rfl) ?_ | refine s_sub (by exact rfl) (by exact rfl) (by exact rfl) (by omega) ?_ | refine c_block ?_ | refine c_skip ?_ | refine k_blk ?_ | refine c_cond_t (by exact rfl) ?_
              refine c_round k (List.replicate _ 0) (pick_id _) ⟨rfl, rfl, rfl, rfl, rfl, rfl, rfl, rfl, by rw [← hkk]; rfl, trivial⟩ ⟨by omega, hpk⟩ (by omega)
        generalize hp : posE g x g.length = p at *
        have hins : insE g x = g.take p ++ [x] ++ g.drop p := by rw [insE, hp]
        have htw : twE g x = (decide (0 < p) && !belowB (g.getD (p - 1) (0, 0, 0)) x) := by rw [twE, hp]
        refine c_seq ?_
        refine c_join (X := Unit) (fun _ => [(0, .int .i64 n), (1, vl), (4, .pointer (some ⟨b4, 0, none⟩)), (5, .int .i64 0), (7, .pointer (some ⟨b7, 0, none⟩)), (8, .bool (tw || twE g x)), (9, .int .i64 (i : Int)), (10, .pointer (some ⟨b10, 0, none⟩)), (12, .int .i64 (p : Int))]) (fun _ => [rowHP vg 37 3 g.length (esV g), boxHP b7 24 [.int .i64 n, vg], boxHP b4 24 [.int .i64 0, .slice none 0 0], boxHP b10 37 (eV x)]) (fun K hk => ?_) (fun _ => ?_)
        · cases htwb : tw
          · cases p with
            | zero =>
              refine p_begin0 [(0, true), (1, true), (2, true), (3, true), (4, true), (5, true), (6, true), (7, true), (8, true), (9, true), (10, true), (11, true), (12, false), (13, true), (14, true), (15, true), (16, true)] (by kernel_rfl) ?_
              repeat' first
                | refine p_nil ?_
                | (refine p_at (by exact rfl) ?_
                   first
                    | refine t_move (by exact rfl) (by exact rfl) (by exact fun _ h => h) ?_ | refine t_assign (by exact rfl) (by exact rfl) (by exact fun _ h => h) ?_ | refine t_pick_f (by exact rfl) (by exact rfl) (by exact rfl) (by exact fun _ h => h) ?_ | refine tw_move (by exact rfl) (by exact rfl) (by exact rfl) (by exact rfl) (by exact fun _ h => h) ?_ | refine tw_gtr (by exact rfl) (by exact rfl) (by exact rfl) (by exact rfl) (by exact rfl) (by exact fun _ h => h) ?_ | refine tw_pick_f (by exact rfl) (by exact rfl) (by exact rfl) (by exact rfl) (by exact rfl) (by exact fun _ h => h) ?_ | (refine t_case (by exact rfl) (by exact rfl) (fun h => ?_) (fun h => ?_) <;> try (exfalso; omega)) | refine t_skip (by exact rfl) (by exact rfl) (by exact rfl) (by exact rfl) (by exact fun _ h => h) ?_ | refine t_skipl (by exact rfl) (by exact rfl) (by exact rfl) (by exact rfl) (by exact fun _ h => h) ?_)
              repeat' first
                | refine k_then ?_
              exact j_end hk () [0, 0, 0, 0] (by exact rfl) (by rw [htwb, htw]; exact ⟨rfl, rfl, rfl, rfl, rfl, rfl, rfl, rfl, rfl, trivial⟩)
            | succ p =>
              obtain ⟨q, hq⟩ : ∃ q, g[p]? = some q := ⟨_, List.getElem?_eq_getElem (by omega)⟩
              have hgq : g.getD (p + 1 - 1) (0, 0, 0) = q := by rw [List.getD_eq_getElem?_getD, Nat.add_sub_cancel, hq]; rfl
              have hkk : ((p + 1 : Nat) : Int) - 1 = (p : Int) := by omega
              have hQ2 : ((esV g).drop ((((p + 1 : Nat) : Int) - 1).toNat * 3)).take 3 = eV q := by rw [hkk]; exact esV_at hq
              rw [hgq, decide_eq_true (by omega), Bool.true_and] at htw
              refine p_begin0 [(0, true), (1, true), (2, true), (3, true), (4, true), (5, true), (6, true), (7, true), (8, true), (9, true), (10, true), (11, true), (12, false), (13, true), (14, true), (15, true), (16, true)] (by kernel_rfl) ?_
              repeat' first
                | (refine p_at (by exact rfl) ?_
                   first
                    | refine t_move (by exact rfl) (by exact rfl) (by exact fun _ h => h) ?_ | refine tw_move (by exact rfl) (by exact rfl) (by exact rfl) (by exact rfl) (by exact fun _ h => h) ?_ | refine tw_fa (by exact rfl) (by exact rfl) (by exact rfl) (by exact rfl) (by exact fun _ h => h) ?_ | refine tw_ld_box (by exact rfl) (by exact rfl) (by exact rfl) (by exact rfl) (by exact .tail _ (.head _)) (by exact rfl) (by exact fun _ h => h) ?_ | refine tw_gtr (by exact rfl) (by exact rfl) (by exact rfl) (by exact rfl) (by exact rfl) (by exact fun _ h => h) ?_ | refine tw_sub (by exact rfl) (by exact rfl) (by exact rfl) (by exact rfl) (by exact rfl) (by omega) (by exact fun _ h => h) ?_ | refine tw_idxi (by exact rfl) (by exact rfl) (by exact rfl) (by exact rfl) (by exact rfl) (by assumption) (by first | assumption | omega) (by exact fun _ h => h) ?_ | refine tw_ldk_box (by exact rfl) (by exact rfl) (by exact rfl) (by exact rfl) (by exact .tail _ (.tail _ (.tail _ (.head _)))) (by exact rfl) (by exact rfl) (by exact fun _ h => h) ?_ | refine tw_ldk_row (by exact rfl) (by exact rfl) (by exact rfl) (by exact rfl) (by exact .head _) (by decide) (by assumption) (by exact rfl) (by exact fun _ h => h) ?_ | (refine t_case (by exact rfl) (by exact rfl) (fun h => ?_) (fun h => ?_) <;> try (exfalso; omega)))
              refine p_callw (vs := [.agg (eV q).toArray, .agg (eV x).toArray]) (by exact rfl) (by exact rfl) (by exact rfl) rfl (by exact rfl) (fun w hs => below_ok q x w) (by exact fun _ h => h) ?_
              repeat' first
                | refine p_nil ?_
                | (refine p_at (by exact rfl) ?_
                   first
                    | refine t_assign (by exact rfl) (by exact rfl) (by exact fun _ h => h) ?_ | refine t_pick_f (by exact rfl) (by exact rfl) (by exact rfl) (by exact fun _ h => h) ?_ | refine tw_not (by exact rfl) (by exact rfl) (by exact rfl) (by exact rfl) (by exact fun _ h => h) ?_ | refine tw_pick_t (by exact rfl) (by exact rfl) (by exact rfl) (by exact rfl) (by exact rfl) (by exact fun _ h => h) ?_)
              repeat' first
                | refine k_then ?_
              exact j_end hk () [0, 0, 0, 0] (by exact rfl) (by rw [htwb, htw]; exact ⟨rfl, rfl, rfl, rfl, rfl, rfl, rfl, rfl, rfl, trivial⟩)
          · refine p_begin0 [(0, true), (1, true), (2, true), (3, true), (4, true), (5, true), (6, true), (7, true), (8, true), (9, true), (10, true), (11, true), (12, false), (13, true), (14, true), (15, true), (16, true)] (by kernel_rfl) ?_
            repeat' first
              | refine p_nil ?_
              | (refine p_at (by exact rfl) ?_
                 first
                  | refine t_move (by exact rfl) (by exact rfl) (by exact fun _ h => h) ?_ | refine t_assign (by exact rfl) (by exact rfl) (by exact fun _ h => h) ?_ | refine t_pick_t (by exact rfl) (by exact rfl) (by exact rfl) (by exact fun _ h => h) ?_ | refine t_skip (by exact rfl) (by exact rfl) (by exact rfl) (by exact rfl) (by exact fun _ h => h) ?_ | refine t_skipl (by exact rfl) (by exact rfl) (by exact rfl) (by exact rfl) (by exact fun _ h => h) ?_)
            repeat' first
              | refine k_then ?_
            exact j_end hk () [0, 0, 0, 0] (by exact rfl) (by rw [htwb]; exact ⟨rfl, rfl, rfl, rfl, rfl, rfl, rfl, rfl, rfl, trivial⟩)
        have n1 := esV_one (g.take p)
        have n2 := esV_one (g.drop p)
        have g1 : (esV (g.take p)).length = p * 3 := by rw [esV_length, List.length_take, Nat.min_eq_left hple]
        have g2 : (esV (g.drop p)).length = (g.length - p) * 3 := by rw [esV_length, List.length_drop]
        have hh1 := hvg.cut (sz := 3) (a := 0) (b := p) (Nat.zero_le _) hple
        have hh2 := hvg.cut (sz := 3) (a := p) (b := g.length) hple (Nat.le_refl _)
        have e1 : ((esV g).drop (0 * 3)).take ((p - 0) * 3) = esV (g.take p) := by rw [Nat.zero_mul, List.drop_zero, Nat.sub_zero, esV_take]
        have e2 : ((esV g).drop (p * 3)).take ((g.length - p) * 3) = esV (g.drop p) := by rw [esV_drop, List.take_of_length_le (by rw [g2]; omega)]
        refine p_begin2 [(1, true), (2, true), (3, true), (4, true), (6, true), (9, true), (10, true), (11, true), (12, true), .tree (.two 0 (.two 5 (.one 7 .leaf) 7 (.one 5 .leaf)) 7 (.one 0 (.one 5 .leaf))), (8, false), (13, false)] [(14, true), (15, false)] [rowHP vg 37 3 g.length (esV g), boxHP b7 24 [.int .i64 n, vg], boxHP b4 24 [.int .i64 0, .slice none 0 0], boxHP b10 37 (eV x)] (by kernel_rfl) ?_
        repeat' first
          | (refine p_at (by exact rfl) ?_
             first
              | refine t_move (by exact rfl) (by exact rfl) (by exact fun _ h => h) ?_ | refine t_fa (by exact rfl) (by exact rfl) (by exact fun _ h => h) ?_ | refine t_ld_box (by exact rfl) (by exact rfl) (by exact .tail _ (.head _)) (by exact rfl) (by exact fun _ h => h) ?_ | refine t_ldk_box (by exact rfl) (by exact rfl) (by exact .tail _ (.tail _ (.tail _ (.head _)))) (by exact rfl) (by exact rfl) (by exact fun _ h => h) ?_ | refine t_cut_lo (by exact rfl) (by exact rfl) (by exact rfl) (by assumption) (by omega) (by exact fun _ h => h) ?_ | refine t_cut_hi (by exact rfl) (by exact rfl) (by exact rfl) (by assumption) (by omega) (by exact fun _ h => h) ?_)
        refine p_join (X := Value × Value) [(8, false), (13, false)] (fun y => [(90, y.1), (92, y.2), (97, cutV vg 3 p g.length), (0, .int .i64 n), (1, vl), (4, .pointer (some ⟨b4, 0, none⟩)), (5, .int .i64 0), (7, .pointer (some ⟨b7, 0, none⟩)), (8, .bool (tw || twE g x)), (9, .int .i64 (i : Int))]) (fun y => [rowHP y.1 37 3 (0 + (p - 0)) ([] ++ esV (g.take p)), rowHP y.2 37 3 1 (eV x), rowHP vg 37 3 g.length (esV g), boxHP b7 24 [.int .i64 n, vg], boxHP b4 24 [.int .i64 0, .slice none 0 0], boxHP b10 37 (eV x)]) (fun hk => ?_) ?_
        · refine p_two ?_ ?_
          · refine p_mk0 (by exact rfl) (by exact rfl) (fun _ _ h => h.tl) fun v0 hv0 => ?_
            refine p_two ?_ ?_
            · refine p_append_rd (bytes := 24) (j := 0) (c := p - 0) (fun w h => rd_cut (sz := 3) (a := 0) (b := p) (.tail _ (.head _)) (Nat.zero_le _) hple w h) (by exact rfl) (by exact rfl) (by exact rfl) (by exact rfl) (by exact rfl) hh1 (by rw [e1, g1, Nat.sub_zero]) (by rw [e1]; exact n1) (by omega) (fun _ _ h => h.tl) fun v1 hv1 => ?_
              rw [e1]
              refine p_one ?_
              refine p_mk (sz := 3) [.agg (eV x).toArray] (by exact rfl) (by exact rfl) (by exact rfl) rfl (by simp [Value.cells, eV]) (by simp) (by simp) (fun _ _ h => h.tl.tl) fun v2 hv2 => ?_
              refine p_leaf ?_
              exact pj_end hk (v1, v2) [1, 0, 0, 0, 0, 0] (by exact rfl) ⟨rfl, rfl, rfl, rfl, rfl, rfl, rfl, rfl, rfl, rfl, trivial⟩
            · refine p_mk (sz := 3) [.agg (eV x).toArray] (by exact rfl) (by exact rfl) (by exact rfl) rfl (by simp [Value.cells, eV]) (by simp) (by simp) (fun _ _ h => h.tl.tl) fun v2 hv2 => ?_
              refine p_one ?_
              refine p_append_rd (bytes := 24) (j := 1) (c := p - 0) (fun w h => rd_cut (sz := 3) (a := 0) (b := p) (.tail _ (.tail _ (.head _))) (Nat.zero_le _) hple w h) (by exact rfl) (by exact rfl) (by exact rfl) (by exact rfl) (by exact rfl) hh1 (by rw [e1, g1, Nat.sub_zero]) (by rw [e1]; exact n1) (by omega) (fun _ _ h => h.tl.tl) fun v1 hv1 => ?_
              rw [e1]
              refine p_leaf ?_
              exact pj_end hk (v1, v2) [1, 0, 0, 0, 0, 0] (by exact rfl) ⟨rfl, rfl, rfl, rfl, rfl, rfl, rfl, rfl, rfl, rfl, trivial⟩
          · refine p_mk (sz := 3) [.agg (eV x).toArray] (by exact rfl) (by exact rfl) (by exact rfl) rfl (by simp [Value.cells, eV]) (by simp) (by simp) (fun _ _ h => h.tl) fun v2 hv2 => ?_
            refine p_one ?_
            refine p_mk0 (by exact rfl) (by exact rfl) (fun _ _ h => h.tl.tl) fun v0 hv0 => ?_
            refine p_one ?_
            refine p_append_rd (bytes := 24) (j := 0) (c := p - 0) (fun w h => rd_cut (sz := 3) (a := 0) (b := p) (.tail _ (.tail _ (.head _))) (Nat.zero_le _) hple w h) (by exact rfl) (by exact rfl) (by exact rfl) (by exact rfl) (by exact rfl) hh1 (by rw [e1, g1, Nat.sub_zero]) (by rw [e1]; exact n1) (by omega) (fun _ _ h => h.tl.tl) fun v1 hv1 => ?_
            rw [e1]
            refine p_leaf ?_
            exact pj_end hk (v1, v2) [0, 0, 0, 0, 0, 0] (by exact rfl) ⟨rfl, rfl, rfl, rfl, rfl, rfl, rfl, rfl, rfl, rfl, trivial⟩
        rintro ⟨v1, v2⟩
        dsimp only
        refine p_append_row (bytes := 24) (j := 0) (by exact rfl) (by exact rfl) (by exact rfl) (by exact rfl) (by exact rfl) (.tail _ (.head _)) (by simp [eV]) (eV_one x) (by omega) (fun _ _ h => h.tl.tl) (fun v3 hv3 => ?_)
        refine p_append_rd (bytes := 24) (j := 0) (c := g.length - p) (fun w h => rd_cut (sz := 3) (a := p) (b := g.length) (.tail _ (.tail _ (.head _))) hple (Nat.le_refl _) w h) (by exact rfl) (by exact rfl) (by exact rfl) (by exact rfl) (by exact rfl) hh2 (by rw [e2, g2]) (by rw [e2]; exact n2) (by omega) (fun _ _ h => h.tl.tl) fun v4 hv4 => ?_
        rw [e2]
        refine p_nil ?_
        refine p_cut [boxHP b4 24 [.int .i64 0, .slice none 0 0]] (fun _ h => h.pick [4] (by exact rfl)) ?_
        refine p_at (by exact rfl) ?_
        refine t_fa (by exact rfl) (by exact rfl) (fun _ h => h.pick [4] (by exact rfl)) ?_
        refine p_st_box (j := 3) (by exact rfl) (by exact rfl) (by exact rfl) (by exact rfl) hv4.one (by simp) (fun _ h => h.pick [4] (by exact rfl)) ?_
        refine p_nil ?_
        repeat' first
          | refine k_then ?_ | refine c_region ?_ | refine s_nil ?_ | refine s_move (by exact rfl) (by exact rfl) ?_ | refine s_assign (by exact rfl) (by exact rfl) ?_ | refine s_add (by exact rfl) (by exact rfl) (by exact rfl) (by omega) ?_ | refine k_blk ?_
        refine c_round (i + 1, insE g x, (tw || twE g x), v4) [0, 2, 2] ?_ ⟨rfl, rfl, rfl, rfl, rfl, rfl, rfl, trivial⟩ ⟨by dsimp only; omega, by dsimp only; rw [insE_length, hgl], hmk⟩ (by dsimp only; omega)
        dsimp only
        rw [insE_length, hins, esV_append, esV_append, show g.length + 1 = 0 + (p - 0) + 1 + (g.length - p) by omega]
        rfl
      · rw [if_neg ha] at hmk
        repeat' first
          | refine k_then ?_ | refine c_seq ?_ | refine c_region ?_ | refine s_nil ?_ | refine s_move (by exact rfl) (by exact rfl) ?_ | refine s_assign (by exact rfl) (by exact rfl) ?_ | refine s_neq (by exact rfl) (by exact rfl) (by exact rfl) ?_ | (refine c_cond_p (by exact rfl) (fun h => ?_) (fun h => ?_) <;> try (exfalso; omega))
        refine o_build (cs := [.int .i64 0, .slice none 0 0]) [] (by exact rfl) (by exact rfl) (by simp) (by exact rfl) ?_
        repeat' first
          | refine s_move (by exact rfl) (by exact rfl) ?_
        refine o_stk_box (i := 3) (us := [.int .i64 0, .slice none 0 0]) (by exact rfl) (by exact rfl) (by exact rfl) (by exact rfl) (by exact rfl) (by simp [Value.oneCell']) (by simp [Value.cells]) ?_
        repeat' first
          | refine k_then ?_ | refine s_nil ?_ | refine s_assign (by exact rfl) (by exact rfl) ?_ | refine c_ret ?_ | refine k_then_ret ?_ | refine k_blk_ret ?_
        refine c_pick [3] (by exact rfl) ?_
        refine c_nil 37 3 ?_
        refine retL [.cell 4 24, .tmp 5] [.agg #[.int .i64 0, .slice none 0 0], .int .i64 (aloneK n e.1 e.2.1 e.2.2)] [0] rfl ⟨res_cellk (cs := [.int .i64 0, .slice none 0 0]) (k := 2) (off := 0) (us := [.int .i64 0, .slice none 0 0]) rfl (.tail _ (.head _)) rfl rfl, res_tmp rfl, trivial⟩ (by exact rfl) ⟨.slice none 0 0, ?_, ?_⟩
        · rw [← hmk]; simp only [if_neg ha]; rfl
        · rw [← hmk]; rfl
    · have hil2 : i = l.length := by omega
      rw [hil2, List.drop_of_length_le (Nat.le_refl _), makeF] at hmk
      refine know_row (v := vg) (.head _) fun hvg _ => ?_
      cases tw
      · rw [if_neg (by simp)] at hmk
        repeat' first
          | refine k_then ?_ | refine c_seq ?_ | refine c_region ?_ | refine s_nil ?_ | refine s_move (by exact rfl) (by exact rfl) ?_ | refine s_lss (by exact rfl) (by exact rfl) (by exact rfl) ?_ | refine s_len (by exact rfl) (by exact rfl) (by assumption) ?_ | refine s_ldk_box (by exact rfl) (by exact rfl) (by exact .tail _ (.head _)) (by exact rfl) (by exact rfl) ?_ | refine c_skip ?_ | refine c_exit ?_ | refine k_then_exit ?_ | refine k_blk_eq ?_ | (refine c_cond_p (by exact rfl) (fun h => ?_) (fun h => ?_) <;> try (exfalso; omega)) | refine c_cond_f (by exact rfl) ?_
        refine o_stk_box (i := 2) (us := [.int .i64 n, vg]) (by exact rfl) (by exact rfl) (by exact rfl) (by exact rfl) (by exact rfl) (by
          intro u hu
          simp only [List.mem_cons, List.not_mem_nil, or_false] at hu
          rcases hu with rfl | rfl
          · rfl
          · exact hvg.one) (by simp) ?_
        repeat' first
          | refine k_then ?_ | refine s_nil ?_ | refine s_assign (by exact rfl) (by exact rfl) ?_ | refine c_ret ?_
        refine retL [.cell 4 24, .tmp 5] [.agg #[.int .i64 n, vg], .int .i64 0] [0] rfl ⟨res_cellk (cs := [.int .i64 n, vg]) (k := 2) (off := 0) (us := [.int .i64 n, vg]) rfl (.tail _ (.tail _ (.head _))) rfl rfl, res_tmp rfl, trivial⟩ (by exact rfl) ⟨vg, ?_, ?_⟩
        · rw [← hmk]; rfl
        · rw [← hmk]
      · rw [if_pos rfl] at hmk
        repeat' first
          | refine k_then ?_ | refine c_seq ?_ | refine c_region ?_ | refine s_nil ?_ | refine s_move (by exact rfl) (by exact rfl) ?_ | refine s_lss (by exact rfl) (by exact rfl) (by exact rfl) ?_ | refine s_len (by exact rfl) (by exact rfl) (by assumption) ?_ | refine c_exit ?_ | refine k_then_exit ?_ | refine k_blk_eq ?_ | (refine c_cond_p (by exact rfl) (fun h => ?_) (fun h => ?_) <;> try (exfalso; omega)) | refine c_cond_t (by exact rfl) ?_
        refine o_build (cs := [.int .i64 0, .slice none 0 0]) [] (by exact rfl) (by exact rfl) (by simp) (by exact rfl) ?_
        skip
        refine o_stk_box (i := 2) (us := [.int .i64 0, .slice none 0 0]) (by exact rfl) (by exact rfl) (by exact rfl) (by exact rfl) (by exact rfl) (by simp [Value.oneCell']) (by simp [Value.cells]) ?_
        repeat' first
          | refine k_then ?_ | refine s_nil ?_ | refine s_assign (by exact rfl) (by exact rfl) ?_ | refine c_ret ?_ | refine k_then_ret ?_
        refine c_pick [2] (by exact rfl) ?_
        refine c_nil 37 3 ?_
        refine retL [.cell 4 24, .tmp 5] [.agg #[.int .i64 0, .slice none 0 0], .int .i64 (7)] [0] rfl ⟨res_cellk (cs := [.int .i64 0, .slice none 0 0]) (k := 2) (off := 0) (us := [.int .i64 0, .slice none 0 0]) rfl (.tail _ (.head _)) rfl rfl, res_tmp rfl, trivial⟩ (by exact rfl) ⟨.slice none 0 0, ?_, ?_⟩
        · rw [← hmk]; rfl
        · rw [← hmk]; rfl
  · have hmk : makeR n l = (sizesK n l.length, []) := by rw [makeR, if_neg h0]
    repeat' first
      | refine k_then ?_ | refine c_seq ?_ | refine c_region ?_ | refine s_nil ?_ | refine s_move (by exact rfl) (by exact rfl) ?_ | refine s_assign (by exact rfl) (by exact rfl) ?_ | refine s_neq (by exact rfl) (by exact rfl) (by exact rfl) ?_ | (refine c_cond_p (by exact rfl) (fun h => ?_) (fun h => ?_) <;> try (exfalso; omega))
    refine o_build (cs := [.int .i64 0, .slice none 0 0]) [] (by exact rfl) (by exact rfl) (by simp) (by exact rfl) ?_
    repeat' first
      | refine s_move (by exact rfl) (by exact rfl) ?_
    refine o_stk_box (i := 0) (us := [.int .i64 0, .slice none 0 0]) (by exact rfl) (by exact rfl) (by exact rfl) (by exact rfl) (by exact rfl) (by simp [Value.oneCell']) (by simp [Value.cells]) ?_
    repeat' first
      | refine k_then ?_ | refine s_nil ?_ | refine s_assign (by exact rfl) (by exact rfl) ?_ | refine c_ret ?_ | refine k_then_ret ?_
    refine c_pick [0] (by exact rfl) ?_
    refine c_nil 37 3 ?_
    refine retL [.cell 4 24, .tmp 5] [.agg #[.int .i64 0, .slice none 0 0], .int .i64 (sizesK n l.length)] [0] rfl ⟨res_cellk (cs := [.int .i64 0, .slice none 0 0]) (k := 2) (off := 0) (us := [.int .i64 0, .slice none 0 0]) rfl (.tail _ (.head _)) rfl rfl, res_tmp rfl, trivial⟩ (by exact rfl) ⟨.slice none 0 0, ?_, ?_⟩
    · rw [hmk]; simp only [if_neg h0]; rfl
    · rw [hmk]; rfl
end Go.Proofs.YtpajjnkmaebhcabGreat
end
section
set_option linter.unusedVariables false
namespace Go.Proofs.YtpajjnkmaebhcabGreat
open Go Go.RowKit Go.Sl Fil
set_option maxRecDepth 100000
set_option maxHeartbeats 8000000
set_option linter.unusedVariables false
set_option linter.unusedSimpArgs false
attribute [local irreducible] Code.wp wpList bodyPost wpQuiet Exit.then Exit.inBlock Post wpAnyH wpOp
/-- what Make answers -/
structure MakeP (n : Int) (l : List E) (k : Int) (m : List E) : Prop where
  size : sizesK n l.length ≠ 0 → k = sizesK n l.length ∧ m = []
  alone : sizesK n l.length = 0 → ∀ (i : Nat) e, l[i]? = some e → aloneK n e.1 e.2.1 e.2.2 ≠ 0 → (∀ f ∈ l.take i, aloneK n f.1 f.2.1 f.2.2 = 0) → k = aloneK n e.1 e.2.1 e.2.2 ∧ m = []
  good : sizesK n l.length = 0 → (∀ e ∈ l, aloneK n e.1 e.2.1 e.2.2 = 0) → ∃ l' : List E, l'.Perm (l.map swapE) ∧ l'.Pairwise (fun a b => ¬ orderK b a < 0) ∧ ((k = 7 ∧ m = [] ∧ ∃ (i : Nat) (a b : E), l'[i]? = some a ∧ l'[i + 1]? = some b ∧ orderK a b = 0) ∨ (k = 0 ∧ m = l' ∧ ∀ (i : Nat) (a b : E), l'[i]? = some a → l'[i + 1]? = some b → orderK a b ≠ 0))
end Go.Proofs.YtpajjnkmaebhcabGreat
end
section
set_option linter.unusedVariables false
namespace Fil
def endsNe (a b : E) : Prop := ¬ (a.1 = b.1 ∧ a.2.1 = b.2.1)
theorem ltE_ne {a b : E} (h : ltE a b) : endsNe a b := by unfold ltE at h; unfold endsNe; omega
theorem endsNe_symm {a b : E} (h : endsNe a b) : endsNe b a := fun h2 => h ⟨h2.1.symm, h2.2.symm⟩
theorem belowB_iff {a b : E} : belowB a b = true ↔ ltE a b := by simp [belowB, ltE]
theorem posE_spec (g : List E) (e : E) : ∀ k, k ≤ g.length → (∀ j x, posE g e k ≤ j → j < k → g[j]? = some x → ltE e x) ∧ (∀ x, 0 < posE g e k → g[posE g e k - 1]? = some x → ¬ ltE e x)
  | 0, _ => ⟨fun j x _ h => by omega, fun x h => by simp [posE] at h⟩
  | k + 1, hk => by
    obtain ⟨h1, h2⟩ := posE_spec g e k (by omega)
    have hg : g[k]? = some (g.getD k (0, 0, 0)) := by rw [List.getD_eq_getElem?_getD, List.getElem?_eq_getElem (by omega)]; rfl
    rw [posE]
    split
    · rename_i hb
      refine ⟨fun j x hj hjk hx => ?_, h2⟩
      by_cases hjk2 : j = k
      · subst hjk2
        rw [hg] at hx
        rw [← Option.some.inj hx]
        exact belowB_iff.1 hb
      · exact h1 j x hj (by omega) hx
    · rename_i hb
      refine ⟨fun j x hj hjk => by omega, fun x _ hx => ?_⟩
      rw [Nat.add_sub_cancel, hg] at hx
      rw [← Option.some.inj hx]
      exact fun h => hb (belowB_iff.2 h)
theorem insE_perm (g : List E) (e : E) : (insE g e).Perm (g ++ [e]) := by
  rw [insE, List.append_assoc]
  have h : ([e] ++ g.drop (posE g e g.length)).Perm (g.drop (posE g e g.length) ++ [e]) := List.perm_append_comm
  refine (h.append_left _).trans ?_
  rw [← List.append_assoc, List.take_append_drop]
theorem ins_sorted {g : List E} {e : E} (hg : g.Pairwise ltE) : (twE g e = false → (insE g e).Pairwise ltE ∧ ∀ f ∈ g, endsNe f e) ∧ (twE g e = true → ∃ f ∈ g, ¬ endsNe f e) := by
  have hle := posE_le g e g.length
  obtain ⟨h1, h2⟩ := posE_spec g e g.length (Nat.le_refl _)
  generalize hp : posE g e g.length = p at *
  have hlast : 0 < p → g[p - 1]? = some (g.getD (p - 1) (0, 0, 0)) := fun h => by rw [List.getD_eq_getElem?_getD, List.getElem?_eq_getElem (by omega)]; rfl
  constructor
  · intro ht
    have hlow : ∀ f ∈ g.take p, ltE f e := by
      by_cases h0 : p = 0
      · subst h0; simp
      · have hb : ltE (g.getD (p - 1) (0, 0, 0)) e := by
          rw [twE, hp] at ht
          rw [← belowB_iff]
          cases hbb : belowB (g.getD (p - 1) (0, 0, 0)) e
          · rw [hbb] at ht; simp at ht; omega
          · rfl
        intro f hf
        obtain ⟨j, hj⟩ := List.getElem?_of_mem hf
        rw [List.getElem?_take] at hj
        split at hj
        · rename_i hjp
          by_cases hjl : j = p - 1
          · subst hjl
            rw [hlast (by omega)] at hj
            rw [← Option.some.inj hj]; exact hb
          · obtain ⟨q1, q2⟩ := List.getElem?_eq_some_iff.1 hj
            obtain ⟨q3, q4⟩ := List.getElem?_eq_some_iff.1 (hlast (by omega))
            have := List.pairwise_iff_getElem.1 hg j (p - 1) q1 q3 (by omega)
            rw [q2, q4] at this
            exact ltE_trans this hb
        · simp at hj
    have hhigh : ∀ f ∈ g.drop p, ltE e f := by
      intro f hf
      obtain ⟨j, hj⟩ := List.getElem?_of_mem hf
      rw [List.getElem?_drop] at hj
      exact h1 (p + j) f (by omega) (List.getElem?_eq_some_iff.1 hj).1 hj
    refine ⟨?_, fun f hf => ?_⟩
    · rw [insE, hp, List.append_assoc, List.pairwise_append]
      refine ⟨hg.sublist (List.take_sublist _ _), ?_, fun a ha b hb => ?_⟩
      · rw [List.singleton_append, List.pairwise_cons]
        exact ⟨hhigh, hg.sublist (List.drop_sublist _ _)⟩
      · rcases List.mem_append.1 hb with hb | hb
        · obtain rfl : b = e := by simpa using hb
          exact hlow a ha
        · exact ltE_trans (hlow a ha) (hhigh b hb)
    · rw [← List.take_append_drop p g] at hf
      rcases List.mem_append.1 hf with hf | hf
      · exact ltE_ne (hlow f hf)
      · exact endsNe_symm (ltE_ne (hhigh f hf))
  · intro ht
    rw [twE, hp, Bool.and_eq_true, decide_eq_true_eq, Bool.not_eq_true'] at ht
    obtain ⟨t1, t2⟩ := ht
    refine ⟨_, List.mem_of_getElem? (hlast t1), fun hne => ?_⟩
    have a1 := h2 _ t1 (hlast t1)
    have a2 : ¬ ltE (g.getD (p - 1) (0, 0, 0)) e := fun h => by rw [belowB_iff.2 h] at t2; cases t2
    unfold ltE at a1 a2
    unfold endsNe at hne
    omega
theorem makeF_tw {n : Int} : ∀ (l g : List E), (∀ e ∈ l, aloneK n e.1 e.2.1 e.2.2 = 0) → makeF n l g true = (7, [])
  | [], g, _ => rfl
  | e :: l, g, h => by
    rw [makeF, if_pos (h e (.head _)), Bool.true_or]
    exact makeF_tw l _ fun f hf => h f (.tail _ hf)
theorem makeF_all {n : Int} : ∀ (l g : List E), (∀ e ∈ l, aloneK n e.1 e.2.1 e.2.2 = 0) → g.Pairwise ltE →
    ((g ++ l.map swapE).Pairwise endsNe → ∃ m, makeF n l g false = (0, m) ∧ m.Pairwise ltE ∧ m.Perm (g ++ l.map swapE)) ∧ (¬ (g ++ l.map swapE).Pairwise endsNe → makeF n l g false = (7, []))
  | [], g, _, hg => ⟨fun _ => ⟨g, rfl, hg, by simp⟩, fun h => absurd (by simpa using hg.imp ltE_ne) h⟩
  | e :: l, g, h, hg => by
    obtain ⟨s1, s2⟩ := ins_sorted (e := swapE e) hg
    have hal := h e (.head _)
    have htl : ∀ f ∈ l, aloneK n f.1 f.2.1 f.2.2 = 0 := fun f hf => h f (.tail _ hf)
    have hperm : (insE g (swapE e) ++ l.map swapE).Perm (g ++ (e :: l).map swapE) := by
      rw [List.map_cons, show g ++ swapE e :: l.map swapE = (g ++ [swapE e]) ++ l.map swapE by simp]
      exact (insE_perm g (swapE e)).append_right _
    rw [makeF, if_pos hal, Bool.false_or]
    cases ht : twE g (swapE e)
    · obtain ⟨i1, i2⟩ := makeF_all l (insE g (swapE e)) htl (s1 ht).1
      refine ⟨fun hp => ?_, fun hp => i2 fun h2 => hp ?_⟩
      · obtain ⟨m, m1, m2, m3⟩ := i1 ((List.Perm.pairwise_iff (fun h => endsNe_symm h) hperm).2 hp)
        exact ⟨m, m1, m2, m3.trans hperm⟩
      · exact (List.Perm.pairwise_iff (fun h => endsNe_symm h) hperm).1 h2
    · refine ⟨fun hp => ?_, fun _ => makeF_tw l _ htl⟩
      exfalso
      obtain ⟨f, hf, hne⟩ := s2 ht
      rw [List.map_cons] at hp
      exact hne ((List.pairwise_append.1 hp).2.2 f hf (swapE e) (.head _))
end Fil
namespace Go.Proofs.YtpajjnkmaebhcabGreat
open Fil
end Go.Proofs.YtpajjnkmaebhcabGreat
end
section
set_option linter.unusedVariables false
set_option linter.unusedSectionVars false
namespace Fil
structure Ren (N : Nat) (l l' : List (Nat × Nat)) (p : Nat → Nat) : Prop where
  lt : ∀ v, v < N → p v < N
  inj : ∀ u v, u < N → v < N → p u = p v → u = v
  surj : ∀ v, v < N → ∃ u, u < N ∧ p u = v
  ed : ∀ u v, u < N → v < N → (((p u, p v) ∈ l' ∨ (p v, p u) ∈ l') ↔ ((u, v) ∈ l ∨ (v, u) ∈ l))
theorem comps_in {N : Nat} {lab : Nat → Nat} {r : Nat} (hr : r < N) (h : lab r = r) : (List.range N).filter (fun u => lab u == r) ∈ compsS N lab := List.mem_map.2 ⟨r, List.mem_filter.2 ⟨List.mem_range.2 hr, by simp [h]⟩, rfl⟩
theorem Dec.map {α : Type} [DecidableEq α] {p q f : α → α} {ds : List α} {C : List (List α)} (h : Dec p ds C) (hi : ∀ a ∈ ds, ∀ b ∈ ds, f a = f b → a = b) (hq : ∀ a ∈ ds, q (f a) = f (p a)) : Dec q (ds.map f) (C.map (List.map f)) where
  nd := by
    rw [List.Nodup, List.pairwise_map]
    exact h.nd.imp_of_mem fun {a b} ha hb hne e => hne (hi a ha b hb e)
  cy l hl := by
    obtain ⟨c, hc, rfl⟩ := List.mem_map.1 hl
    obtain ⟨h1, s, h2⟩ := h.cy c hc
    exact ⟨by simpa using h1, f s, st_map (fun a ha => hq a (h.perm.mem_iff.1 (List.mem_flatten.2 ⟨c, hc, ha⟩))) h2⟩
  perm := by rw [← List.map_flatten]; exact h.perm.map f
theorem cyc_map {p : Nat → Nat} {l : List Nat} (hn : l.Nodup) (hi : ∀ a ∈ l, ∀ b ∈ l, p a = p b → a = b) {u : Nat} (hu : u ∈ l) : cyc (l.map p) (p u) = p (cyc l u) := by
  have hn' : (l.map p).Nodup := by
    rw [List.Nodup, List.pairwise_map]
    exact hn.imp_of_mem fun {a b} ha hb hne e => hne (hi a ha b hb e)
  obtain ⟨i, h, rfl⟩ := List.getElem_of_mem hu
  have h1 := cyc_at hn' (i := i) (by simpa using h)
  rw [List.getElem_map] at h1
  rw [h1, cyc_at hn h, List.getElem_map]
  simp
section
variable {n : Int} {es es' : List E} {R R' : List (List Nat)} {o lab o' lab' : Nat → Nat} {p : Nat → Nat}
theorem ren_lab (hp : Ren n.toNat (tn es) (tn es') p) (hG : RightG n es) (hG' : RightG n es') (hL : Lev n.toNat (nb (tn es)) o lab) (hL' : Lev n.toNat (nb (tn es')) o' lab') {u v : Nat} (hu : u < n.toNat) (hv : v < n.toNat) : lab' (p u) = lab' (p v) ↔ lab u = lab v := by
  have hne := good_ne hG.good
  have hne' := good_ne hG'.good
  obtain ⟨q, hq⟩ : ∃ q : Nat → Nat, ∀ x, x < n.toNat → q x < n.toNat ∧ p (q x) = x :=
    ⟨fun x => if h : x < n.toNat then (hp.surj x h).choose else 0, fun x hx => by simp only [dif_pos hx]; exact (hp.surj x hx).choose_spec⟩
  have hqp : ∀ u, u < n.toNat → q (p u) = u := fun u hu => by
    obtain ⟨h1, h2⟩ := hq (p u) (hp.lt u hu)
    exact hp.inj _ _ h1 hu h2
  have hlt' : ∀ w, w < n.toNat → lab' w < n.toNat := fun w hw => by have := hL'.le w hw; omega
  constructor
  · intro e
    have hc : OnEdges n.toNat (nb (tn es')) fun x => lab (q x) := fun w hw x hx => by
      have hxl := hG'.good.adj.lt w hw x hx
      obtain ⟨a1, a2⟩ := hq w hw
      obtain ⟨b1, b2⟩ := hq x hxl
      rw [mem_nb hne', ← a2, ← b2] at hx
      have := (hp.ed (q w) (q x) a1 b1).1 hx
      exact (hL.edge (q w) a1 (q x) ((mem_nb hne).2 this)).1
    have h1 := hL'.conn (p u) (hp.lt u hu) _ hc
    have h2 := hL'.conn (p v) (hp.lt v hv) _ hc
    simp only [e, hqp u hu] at h1
    simp only [hqp v hv] at h2
    omega
  · intro e
    have hc : OnEdges n.toNat (nb (tn es)) fun x => lab' (p x) := fun w hw x hx => by
      have hxl := hG.good.adj.lt w hw x hx
      rw [mem_nb hne] at hx
      exact (hL'.edge (p w) (hp.lt w hw) (p x) ((mem_nb hne').2 ((hp.ed w x hw hxl).2 hx))).1
    have h1 := hL.conn u hu _ hc
    have h2 := hL.conn v hv _ hc
    simp only [e] at h1
    omega
theorem ren_rot (hp : Ren n.toNat (tn es) (tn es') p) (hG : RightG n es) (hG' : RightG n es') (h : RotL n.toNat (tn es) R) (hlen : R'.length = n.toNat) (hR : ∀ v, v < n.toNat → rf R' (p v) = (rf R v).map p) : RotL n.toNat (tn es') R' where
  len := hlen
  perm x hx := by
    obtain ⟨v, hv, rfl⟩ := hp.surj x hx
    rw [hR v hv]
    refine perm_of_nodup ?_ (nb_nd hG'.good (tn_nodup hG') _) fun y => ?_
    · rw [List.Nodup, List.pairwise_map]
      exact ((h.sys hG).nd v).imp_of_mem fun {a b} ha hb hne e => hne (hp.inj a b (h.lt hG ha).1 (h.lt hG hb).1 e)
    · rw [List.mem_map, mem_nb (good_ne hG'.good)]
      constructor
      · rintro ⟨u, hu, rfl⟩
        have hul := (h.lt hG hu).1
        exact (hp.ed v u hv hul).2 ((mem_nb (good_ne hG.good)).1 ((h.mem hG).1 hu))
      · intro hy
        have hyl : y < n.toNat := by
          rcases hy with hy | hy <;> have := hG'.good.lt _ hy <;> simp at this <;> omega
        obtain ⟨u, hu, rfl⟩ := hp.surj y hyl
        exact ⟨u, (h.mem hG).2 ((mem_nb (good_ne hG.good)).2 ((hp.ed v u hv hu).1 hy)), rfl⟩
theorem ren_plane (hp : Ren n.toNat (tn es) (tn es') p) (hG : RightG n es) (hG' : RightG n es') (h : RotL n.toNat (tn es) R) (hlen : R'.length = n.toNat) (hR : ∀ v, v < n.toNat → rf R' (p v) = (rf R v).map p) (hL : Lev n.toNat (nb (tn es)) o lab) (hL' : Lev n.toNat (nb (tn es')) o' lab') (hP : planeR n.toNat (tn es) lab R = 0) : planeR n.toNat (tn es') lab' R' = 0 := by
  have h' := ren_rot hp hG hG' h hlen hR
  have hF := facesR_dec hG h
  have hF' := facesR_dec hG' h'
  have hall : ∀ c' ∈ compsS n.toNat lab', eulerK (tn es') (facesR n.toNat (tn es') R') c' = 2 := by
    intro c' hc'
    have hc'0 := hc'
    obtain ⟨r', hr', hrr', rfl⟩ := comp_mem hc'
    obtain ⟨r, hr, rfl⟩ := hp.surj r' hr'
    have hlr := hL.le r hr
    have hcm : (List.range n.toNat).filter (fun u => lab u == lab r) ∈ compsS n.toNat lab := comps_in (by omega) (hL.idem r hr)
    generalize hcd : (List.range n.toNat).filter (fun u => lab u == lab r) = c at *
    have hcl : ∀ u, u ∈ c ↔ u < n.toNat ∧ lab u = lab r := fun u => by rw [← hcd]; simp
    generalize hcd' : (List.range n.toNat).filter (fun u => lab' u == p r) = c' at *
    have hcl' : ∀ u, u ∈ c' ↔ u < n.toNat ∧ lab' u = p r := fun u => by rw [← hcd']; simp
    have hperm : (c.map p).Perm c' := by
      refine perm_of_nodup ?_ (comp_nodup hc'0) fun x => ?_
      · rw [List.Nodup, List.pairwise_map]
        exact (comp_nodup hcm).imp_of_mem fun {a b} ha hb hne e => hne (hp.inj a b ((hcl a).1 ha).1 ((hcl b).1 hb).1 e)
      · rw [List.mem_map, hcl']
        constructor
        · rintro ⟨u, hu, rfl⟩
          obtain ⟨u1, u2⟩ := (hcl u).1 hu
          exact ⟨hp.lt u u1, by rw [(ren_lab hp hG hG' hL hL' u1 hr).2 u2, hrr']⟩
        · rintro ⟨x1, x2⟩
          obtain ⟨u, hu, rfl⟩ := hp.surj x x1
          exact ⟨u, (hcl u).2 ⟨hu, (ren_lab hp hG hG' hL hL' hu hr).1 (by rw [x2, hrr'])⟩, rfl⟩
    have k1 := comp_count hG h hL hF hcm
    have k2 := comp_count hG' h' hL' hF' hc'0
    have hS := h.sys hG
    have hS' := h'.sys hG'
    have hin : ∀ d ∈ dartsOf (rf R) c, d.1 < n.toNat ∧ d.2 < n.toNat ∧ d.2 ∈ rf R d.1 ∧ d.1 ∈ c := fun d hd => by
      obtain ⟨d1, d2⟩ := mem_darts.1 hd
      have := h.lt hG d2
      exact ⟨this.2, this.1, d2, d1⟩
    have k3 := k1.map (q := nxt (rf R')) (f := fun d : Nat × Nat => (p d.1, p d.2)) (fun a ha b hb e => by
        obtain ⟨a1, a2, -, -⟩ := hin a ha
        obtain ⟨b1, b2, -, -⟩ := hin b hb
        simp only [Prod.mk.injEq] at e
        exact Prod.ext (hp.inj _ _ a1 b1 e.1) (hp.inj _ _ a2 b2 e.2)) (fun a ha => by
        obtain ⟨a1, a2, a3, -⟩ := hin a ha
        simp only [nxt, hR a.2 a2]
        rw [cyc_map (hS.nd _) (fun x hx y hy e => hp.inj x y (h.lt hG hx).1 (h.lt hG hy).1 e) (hS.sym a3)])
    have k4 := k3.to (es := dartsOf (rf R') c') (perm_of_nodup k3.nd (darts_nodup hS' (comp_nodup hc'0)) fun d => by
      rw [List.mem_map, mem_darts]
      constructor
      · rintro ⟨a, ha, rfl⟩
        obtain ⟨a1, a2, a3, a4⟩ := hin a ha
        exact ⟨hperm.mem_iff.1 (List.mem_map.2 ⟨_, a4, rfl⟩), by rw [hR _ a1]; exact List.mem_map.2 ⟨_, a3, rfl⟩⟩
      · rintro ⟨d1, d2⟩
        obtain ⟨u, hu, e1⟩ := List.mem_map.1 (hperm.mem_iff.2 d1)
        rw [← e1, hR u ((hcl u).1 hu).1] at d2
        obtain ⟨x, hx, e2⟩ := List.mem_map.1 d2
        exact ⟨(u, x), mem_darts.2 ⟨hu, hx⟩, Prod.ext e1 e2⟩)
    have e1 := k4.count k2
    have e2 := k4.perm.length_eq.symm.trans (by rw [← List.map_flatten, List.length_map, k1.perm.length_eq])
    rw [darts_length hS (comp_nodup hcm) (comp_shut hG h hL hcm), darts_length hS' (comp_nodup hc'0) (comp_shut hG' h' hL' hc'0)] at e2
    have e3 := hperm.length_eq
    rw [List.length_map] at e1 e3
    have e4 := planeR_two hP c hcm
    rw [eulerK] at e4 ⊢
    rw [← e1, ← e3]
    have e5 : ((tn es').filter fun e => decide (e.1 ∈ c')).length = ((tn es).filter fun e => decide (e.1 ∈ c)).length := by omega
    rw [e5]
    exact e4
  rw [planeR, if_neg]
  intro hh
  obtain ⟨x, hx, hx2⟩ := List.any_eq_true.1 hh
  obtain ⟨c', hc', rfl⟩ := List.mem_map.1 hx
  exact of_decide_eq_true hx2 (hall c' hc')
end
/-- an edge under other names -/
def renE (p : Nat → Nat) (e : E) : E := ((p e.1.toNat : Int), (p e.2.1.toNat : Int), e.2.2)
theorem ren_sw (p : Nat → Nat) (e : E) : swapE (renE p e) = (((min (p e.1.toNat) (p e.2.1.toNat) : Nat) : Int), ((max (p e.1.toNat) (p e.2.1.toNat) : Nat) : Int), e.2.2) := by
  unfold swapE renE
  dsimp only
  split
  · rw [Nat.min_eq_right (by omega), Nat.max_eq_left (by omega)]
  · rw [Nat.min_eq_left (by omega), Nat.max_eq_right (by omega)]
theorem ren_make {n : Int} {es : List E} {p : Nat → Nat} (hG : RightG n es) (lt : ∀ v, v < n.toNat → p v < n.toNat) (inj : ∀ u v, u < n.toNat → v < n.toNat → p u = p v → u = v) (surj : ∀ v, v < n.toNat → ∃ u, u < n.toNat ∧ p u = v) :
    ∃ es', makeR n (es.map (renE p)) = (0, es') ∧ RightG n es' ∧ es'.length = es.length ∧ Ren n.toNat (tn es) (tn es') p := by
  have hlo := hG.lo
  have hpe : ∀ e ∈ es, p e.1.toNat < n.toNat ∧ p e.2.1.toNat < n.toNat ∧ p e.1.toNat ≠ p e.2.1.toNat := fun e he => by
    obtain ⟨o1, o2, o3, o4, o5⟩ := hG.ok e he
    refine ⟨lt _ (by omega), lt _ (by omega), fun h => ?_⟩
    have := inj _ _ (by omega) (by omega) h
    omega
  have h0 : sizesK n (es.map (renE p)).length = 0 := by
    have := hG.hi; have := hG.many
    simp only [sizesK, List.length_map]
    rw [if_neg (by omega), if_neg (by omega)]
  have hal : ∀ e ∈ es.map (renE p), aloneK n e.1 e.2.1 e.2.2 = 0 := fun e he => by
    obtain ⟨f, hf, rfl⟩ := List.mem_map.1 he
    obtain ⟨o1, o2, o3, o4, o5⟩ := hG.ok f hf
    obtain ⟨p1, p2, p3⟩ := hpe f hf
    have q1 : (renE p f).1 = (p f.1.toNat : Int) := rfl
    have q2 : (renE p f).2.1 = (p f.2.1.toNat : Int) := rfl
    have q3 : (renE p f).2.2 = f.2.2 := rfl
    simp only [aloneK]
    rw [if_neg (by rw [q1, q2]; omega), if_neg (by rw [q1, q2]; omega), if_neg (by rw [q3]; omega)]
  have hends : ((es.map (renE p)).map swapE).Pairwise endsNe := by
    rw [List.map_map, List.pairwise_map]
    refine hG.sorted.imp_of_mem fun {a b} ha hb hab h => ?_
    obtain ⟨a1, a2, a3, -, -⟩ := hG.ok a ha
    obtain ⟨b1, b2, b3, -, -⟩ := hG.ok b hb
    have q1 := inj a.1.toNat b.1.toNat (by omega) (by omega)
    have q2 := inj a.2.1.toNat b.2.1.toNat (by omega) (by omega)
    have q3 := inj a.1.toNat b.2.1.toNat (by omega) (by omega)
    have q4 := inj a.2.1.toNat b.1.toNat (by omega) (by omega)
    unfold ltE at hab
    simp only [Function.comp, ren_sw] at h
    omega
  obtain ⟨m, m1, m2, m3⟩ := (makeF_all (es.map (renE p)) [] hal .nil).1 (by rw [List.nil_append]; exact hends)
  rw [List.nil_append] at m3
  have hml : m.length = es.length := by rw [m3.length_eq, List.length_map, List.length_map]
  have hm : ∀ x, x ∈ m ↔ ∃ e ∈ es, swapE (renE p e) = x := fun x => by rw [m3.mem_iff, List.map_map, List.mem_map]; rfl
  refine ⟨m, by rw [makeR, if_pos h0, m1], ⟨hG.lo, hG.hi, by rw [hml]; exact hG.many, fun x hx => ?_, m2⟩, hml, lt, inj, surj, fun u v hu hv => ?_⟩
  · obtain ⟨e, he, rfl⟩ := (hm x).1 hx
    obtain ⟨o1, o2, o3, o4, o5⟩ := hG.ok e he
    obtain ⟨p1, p2, p3⟩ := hpe e he
    rw [ren_sw]
    simp only [okE]
    omega
  · have key : ∀ a b : Nat, (a, b) ∈ tn m ∨ (b, a) ∈ tn m ↔ ∃ e ∈ es, p e.1.toNat = a ∧ p e.2.1.toNat = b ∨ p e.1.toNat = b ∧ p e.2.1.toNat = a := fun a b => by
      simp only [tn, List.mem_map]
      constructor
      · rintro (⟨x, hx, e⟩ | ⟨x, hx, e⟩) <;> obtain ⟨f, hf, rfl⟩ := (hm x).1 hx <;> refine ⟨f, hf, ?_⟩ <;> rw [ren_sw] at e <;> simp only [Prod.mk.injEq] at e <;> omega
      · rintro ⟨f, hf, e⟩
        by_cases hsw : a ≤ b
        · exact .inl ⟨_, (hm _).2 ⟨f, hf, rfl⟩, by rw [ren_sw]; simp only [Prod.mk.injEq]; omega⟩
        · exact .inr ⟨_, (hm _).2 ⟨f, hf, rfl⟩, by rw [ren_sw]; simp only [Prod.mk.injEq]; omega⟩
    rw [key]
    simp only [tn, List.mem_map, Prod.mk.injEq]
    constructor
    · rintro ⟨e, he, h⟩
      obtain ⟨o1, o2, o3, -, -⟩ := hG.ok e he
      rcases h with ⟨h1, h2⟩ | ⟨h1, h2⟩
      · exact .inl ⟨e, he, inj _ _ (by omega) hu h1, inj _ _ (by omega) hv h2⟩
      · exact .inr ⟨e, he, inj _ _ (by omega) hv h1, inj _ _ (by omega) hu h2⟩
    · rintro (⟨e, he, h1, h2⟩ | ⟨e, he, h1, h2⟩)
      · exact ⟨e, he, .inl ⟨by rw [h1], by rw [h2]⟩⟩
      · exact ⟨e, he, .inr ⟨by rw [h1], by rw [h2]⟩⟩
end Fil
end
section
set_option linter.unusedVariables false
namespace Go.Sl
open Go Go.RowKit
section
variable {P : Program} {w0 : World} {S0 : FS} {n : Nat} {F : List (Nat × Value)} {L : List HP} {Q : Exit → Act → World → Prop}
/-- what is left over, by a number above 0, of any number -/
theorem q_remz {o : Oper} {x y : Operand} {t t' : TypeId} {a b : Int} (ho : o.op = .binOp .rem t x y t') (hx : ev F x = some (.int .i64 a)) (hy : ev F y = some (.int .i64 b)) (h : 0 < b ∧ b ≤ 9223372036854775807) : R1 P w0 S0 n F L o (.int .i64 (a.tmod b)) :=
  q_of_pure fun s hf w => by
    have hj : ¬ b = 0 := by omega
    simp [execOp, ho, hf.eval hx, hf.eval hy, eqGuard, binOp, Op.intDiv, hj]
end
end Go.Sl
end
section
set_option linter.unusedVariables false
namespace Go.Sl
open Go Go.RowKit
section
variable {P : Program} {w0 : World} {S0 : FS} {n : Nat} {ops : Array Oper} {Q : Exit → Act → World → Prop} {Lk : List HP} {F : List (Nat × Value)} {L : List HP}
theorem t_remz {t t' ty : TypeId} {x y : Operand} {d p : Nat} {ps : String} {af : Array Edge} {a b : Int} {rest : List PI} (hn : Nat.blt d n = true) (hx : ev F x = some (.int .i64 a)) (hy : ev F y = some (.int .i64 b)) (hb : 0 < b ∧ b ≤ 9223372036854775807) (hkeep : ∀ w, St w0 S0 L w → St w0 S0 Lk w) (h : RP P w0 S0 n ops Q Lk rest ((d, .int .i64 (a.tmod b)) :: F) L) : RPo P w0 S0 n ops Q Lk ⟨some d, .binOp .rem t x y t', ty, ps, af, none⟩ p true rest F L := fun ho => p_q ho rfl rfl hn hkeep (q_remz rfl hx hy hb) h
end
end Go.Sl
end
