/- Of BakerEnough BakerShift: part 7: what the walks rest on, contracts of functions and plain lemmas; no condition but those that each states. -/
import Derived.Test.YtpajjnkmaebhcabGreatBe6
import Derived.ProofKit
import Derived.Deep.Slices
import Derived.Deep.Strs
import Derived.Lib.SmallJoins
import Derived.ChangeSlices
set_option linter.unusedVariables false
set_option linter.unusedSimpArgs false
section
set_option linter.unusedVariables false
namespace Go.Proofs.YtpajjnkmaebhcabGreat
open Go Go.RowKit Go.Sl Fil
set_option maxRecDepth 100000
set_option maxHeartbeats 8000000
set_option linter.unusedVariables false
set_option linter.unusedSimpArgs false
attribute [local irreducible] Code.wp wpList bodyPost wpQuiet Exit.then Exit.inBlock Post wpAnyH wpOp
theorem BakerEnough_ok (n : Int) (v : Value) (es : List E) (vi : Value) (l : List Int) (m k : Int) (w : World) (hs : Shp v es.length) (hr : RO w No v (esV es)) (hs2 : Shp vi l.length) (hr2 : RO w No vi (iV l)) :
    Calls Tryz.prog 7 #[.agg #[.int .i64 n, v], vi, .int .i64 m, .int .i64 k] w (Post w No (Just (.bool true))) := by
  refine enter0 (vs := [_, _, _, _]) Tryz.func7 rfl Tryz.ntmps7 rfl ?_
  generalize hreg : Code.region 3 _ _ = creg
  repeat' first
    | refine k_then ?_ | refine c_seq ?_ | refine c_region ?_ | refine s_nil ?_ | refine s_move (by exact rfl) (by exact rfl) ?_ | refine s_assign (by exact rfl) (by exact rfl) ?_ | refine s_fa (by exact rfl) (by exact rfl) ?_ | refine s_ld_box (by exact rfl) (by exact rfl) (by exact .head _) (by exact rfl) ?_ | refine s_gtr (by exact rfl) (by exact rfl) (by exact rfl) ?_ | refine s_len (by exact rfl) (by exact rfl) (by assumption) ?_ | refine s_pick_t (by exact rfl) (by exact rfl) (by exact rfl) ?_ | refine s_pick_f (by exact rfl) (by exact rfl) (by exact rfl) ?_ | refine o_box (by exact rfl) (by exact rfl) (fun b => ?_) | refine c_skip ?_ | (refine c_cond_p (by exact rfl) (fun h => ?_) (fun h => ?_) <;> try (exfalso; omega)) | refine c_cond_t (by exact rfl) ?_ | (refine g_case (by exact rfl) (by exact rfl) (fun h => ?_) (fun h => ?_) <;> try (exfalso; omega)) | refine g_skip (by exact rfl) (by exact rfl) (by exact rfl) (by exact rfl) ?_ | refine w_move (by exact rfl) (by exact rfl) (by exact rfl) (by exact rfl) ?_ | refine w_gtr (by exact rfl) (by exact rfl) (by exact rfl) (by exact rfl) (by exact rfl) ?_ | refine w_len (by exact rfl) (by exact rfl) (by exact rfl) (by exact rfl) (by assumption) ?_ | fail
  · refine s_call (vs := []) (by exact rfl) (by exact rfl) (fun w h => alive20_ok w) ?_
    repeat' first
      | refine k_then ?_ | refine s_nil ?_ | refine s_assign (by exact rfl) (by exact rfl) ?_ | refine c_ret ?_ | refine k_then_ret ?_ | fail
    refine ret1 [] rfl rfl (by exact rfl) ⟨rfl, rfl⟩
  · refine s_call (vs := []) (by exact rfl) (by exact rfl) (fun w h => alive20_ok w) ?_
    repeat' first
      | refine k_then ?_ | refine s_nil ?_ | refine s_assign (by exact rfl) (by exact rfl) ?_ | refine c_ret ?_ | refine k_then_ret ?_ | fail
    refine ret1 [] rfl rfl (by exact rfl) ⟨rfl, rfl⟩
  · subst hreg
    refine p_begin0 [(0, true), (1, true), (2, true), (3, true), (5, true), (6, true), (7, true), (8, true), (4, false), (9, false), (10, true), (11, true), (12, false), (13, true), (14, true)] (by kernel_rfl) ?_
    repeat' first
      | (refine p_at (by exact rfl) ?_
         first
          | refine t_move (by exact rfl) (by exact rfl) (by exact fun _ h => h) ?_ | refine t_ldk_box (by exact rfl) (by exact rfl) (by exact .head _) (by exact rfl) (by exact rfl) (by exact fun _ h => h) ?_ | fail)
      | fail
    refine p_call (gd := none) (vs := [.agg #[.int .i64 n, v], vi, .int .i64 m, .int .i64 k]) (by exact rfl) (by exact rfl) (by exact rfl) (fun w h => Enough_ok n v vi es l m k w hs (ro_old h hr) (by omega) hs2 (ro_old h hr2) (by omega)) (by exact fun _ h => h) ?_
    skip
    refine p_call (gd := none) (vs := [.agg #[.int .i64 n, v], vi, .int .i64 m, .int .i64 k]) (by exact rfl) (by exact rfl) (by exact rfl) (fun w h => refEnough_ok n v vi es l m k w hs (ro_old h hr) (by omega) hs2 (ro_old h hr2) (by omega)) (by exact fun _ h => h) ?_
    repeat' first
      | refine p_nil ?_
      | (refine p_at (by exact rfl) ?_
         first
          | refine t_move (by exact rfl) (by exact rfl) (by exact fun _ h => h) ?_ | refine t_assign (by exact rfl) (by exact rfl) (by exact fun _ h => h) ?_ | refine t_eqlb (by exact rfl) (by exact rfl) (by exact rfl) (by exact fun _ h => h) ?_ | refine t_pick_f (by exact rfl) (by exact rfl) (by exact rfl) (by exact fun _ h => h) ?_ | (refine t_case (by exact rfl) (by exact rfl) (fun h => ?_) (fun h => ?_) <;> try (exfalso; omega)) | refine t_skipl (by exact rfl) (by exact rfl) (by exact rfl) (by exact rfl) (by exact fun _ h => h) ?_ | fail)
      | fail
    refine p_callw (vs := []) (by exact rfl) (by exact rfl) (by exact rfl) (by exact rfl) (by exact rfl) (fun w h => alive20_ok w) (by exact fun _ h => h) ?_
    repeat' first
      | refine p_nil ?_
      | (refine p_at (by exact rfl) ?_
         first
          | refine t_assign (by exact rfl) (by exact rfl) (by exact fun _ h => h) ?_ | refine t_pick_t (by exact rfl) (by exact rfl) (by exact rfl) (by exact fun _ h => h) ?_ | fail)
      | fail
    repeat' first
      | refine k_then ?_ | refine c_ret ?_ | fail
    all_goals first
      | refine ret1 [] rfl rfl (by exact rfl) ⟨rfl, rfl⟩
      | exact absurd rfl h
theorem BakerShift_ok (n : Int) (v : Value) (es : List E) (k s : Int) (w : World) (hs : Shp v es.length) (hr : RO w No v (esV es)) :
    Calls Tryz.prog 5 #[.agg #[.int .i64 n, v], .int .i64 k, .int .i64 s] w (Post w No (Just (.bool true))) := by
  have hnil : Shp (.slice none 0 0) 0 := ⟨by simp [maxLen], .inl ⟨rfl, rfl⟩⟩
  refine enter0 (vs := [_, _, _]) Tryz.func5 rfl Tryz.ntmps5 rfl ?_
  repeat' first
    | refine k_then ?_ | refine c_seq ?_ | refine c_region ?_ | refine s_nil ?_ | refine s_assign (by exact rfl) (by exact rfl) ?_ | refine s_ldk_box (by exact rfl) (by exact rfl) (by exact .head _) (by exact rfl) (by exact rfl) ?_ | refine o_box (by exact rfl) (by exact rfl) (fun b => ?_) | fail
  cases hl : (decide (n ≤ 14) && decide ((es.length : Int) ≤ 4 * 14))
  · refine s_call (vs := [.agg #[.int .i64 n, v], .int .i64 14]) (by exact rfl) (by exact rfl) (fun w h => Light_b n v es.length 14 false w hl hs (by omega)) ?_
    repeat' first
      | refine k_then ?_ | refine c_seq ?_ | refine c_region ?_ | refine s_nil ?_ | refine s_not (by exact rfl) (by exact rfl) ?_ | refine c_cond_t (by exact rfl) ?_ | fail
    refine s_call (vs := []) (by exact rfl) (by exact rfl) (fun w h => alive20_ok w) ?_
    repeat' first
      | refine k_then ?_ | refine s_nil ?_ | refine s_assign (by exact rfl) (by exact rfl) ?_ | refine c_ret ?_ | refine k_then_ret ?_ | fail
    refine ret1 [] rfl rfl (by exact rfl) ⟨rfl, rfl⟩
  refine s_call (vs := [.agg #[.int .i64 n, v], .int .i64 14]) (by exact rfl) (by exact rfl) (fun w h => Light_b n v es.length 14 true w hl hs (by omega)) ?_
  have hn : n ≤ 14 ∧ (es.length : Int) ≤ 56 := by simpa using hl
  by_cases hA : askK n es k s = 0
  case neg =>
    repeat' first
      | refine k_then ?_ | refine c_seq ?_ | refine c_region ?_ | refine s_nil ?_ | refine s_move (by exact rfl) (by exact rfl) ?_ | refine s_not (by exact rfl) (by exact rfl) ?_ | refine s_ldk_box (by exact rfl) (by exact rfl) (by exact .head _) (by exact rfl) (by exact rfl) ?_ | refine c_skip ?_ | refine c_cond_f (by exact rfl) ?_ | fail
    refine s_call (vs := [.agg #[.int .i64 n, v], .int .i64 k, .int .i64 s]) (by exact rfl) (by exact rfl) (fun w h => Shift_no n v es k s w hs (ro_old h hr) (by omega) hA) ?_
    repeat' first
      | refine k_then ?_ | refine c_seq ?_ | refine c_region ?_ | refine s_nil ?_ | refine s_move (by exact rfl) (by exact rfl) ?_ | refine s_assign (by exact rfl) (by exact rfl) ?_ | refine s_extract (by exact rfl) (by exact rfl) (by exact rfl) ?_ | refine s_ldk_box (by exact rfl) (by exact rfl) (by exact .head _) (by exact rfl) (by exact rfl) ?_ | fail
    refine s_call (vs := [.agg #[.int .i64 n, v], .int .i64 k, .int .i64 s]) (by exact rfl) (by exact rfl) (fun w h => Asked_ok n v es k s w hs (ro_old h hr) (by omega)) ?_
    repeat' first
      | refine k_then ?_ | refine c_seq ?_ | refine c_region ?_ | refine s_nil ?_ | refine s_move (by exact rfl) (by exact rfl) ?_ | refine s_assign (by exact rfl) (by exact rfl) ?_ | refine s_eql (by exact rfl) (by exact rfl) (by exact rfl) ?_ | refine s_neq (by exact rfl) (by exact rfl) (by exact rfl) ?_ | refine s_pick_t (by exact rfl) (by exact rfl) (by exact rfl) ?_ | (refine c_cond_p (by exact rfl) (fun h => ?_) (fun h => ?_) <;> try (exfalso; omega)) | (refine g_case (by exact rfl) (by exact rfl) (fun h => ?_) (fun h => ?_) <;> try (exfalso; omega)) | refine w_move (by exact rfl) (by exact rfl) (by exact rfl) (by exact rfl) ?_ | refine w_eql (by exact rfl) (by exact rfl) (by exact rfl) (by exact rfl) (by exact rfl) ?_ | refine w_len (by exact rfl) (by exact rfl) (by exact rfl) (by exact rfl) (by assumption) ?_ | refine g_on (by exact rfl) (by exact rfl) ?_ | fail
    refine s_call (vs := []) (by exact rfl) (by exact rfl) (fun w h => alive20_ok w) ?_
    repeat' first
      | refine k_then ?_ | refine s_nil ?_ | refine s_assign (by exact rfl) (by exact rfl) ?_ | refine s_pick_t (by exact rfl) (by exact rfl) (by exact rfl) ?_ | refine c_ret ?_ | refine k_then_ret ?_ | fail
    refine ret1 [] rfl rfl (by exact rfl) ⟨rfl, rfl⟩
  have hA2 := hA
  simp only [askK] at hA2
  split at hA2
  · omega
  split at hA2
  · omega
  have hR := right_iff.1 (show rightK n es = 0 by omega)
  have hlo := hR.lo
  obtain ⟨o, lab, hL⟩ := lev_ex w hR
  have hk : 1 ≤ k ∧ k ≤ 8 ∧ 0 ≤ s ∧ s ≤ k := by omega
  repeat' first
    | refine k_then ?_ | refine c_seq ?_ | refine c_region ?_ | refine s_nil ?_ | refine s_move (by exact rfl) (by exact rfl) ?_ | refine s_not (by exact rfl) (by exact rfl) ?_ | refine s_ldk_box (by exact rfl) (by exact rfl) (by exact .head _) (by exact rfl) (by exact rfl) ?_ | refine c_skip ?_ | refine c_cond_f (by exact rfl) ?_ | fail
  refine o_call (vs := [.agg #[.int .i64 n, v], .int .i64 k, .int .i64 s]) (by exact rfl) (by exact rfl) (fun w h => Shift_ok n v es k s o lab w hs (ro_old h hr) hR hL hk (by omega)) ?_
  rintro _ _ ⟨vl, l, rfl, rfl, hasc, hM⟩
  have hll := max_len hM
  have hik : indK n es (l.map fun z : Nat => (z : Int)) = 0 := by rw [indK, if_pos (right_iff.2 hR), if_pos ⟨okIn_nat hR.lo hasc fun u hu => (hM.mem u hu).1, indP_nat hR hM.ind.no⟩]
  refine know_row (v := vl) (.head _) fun hvl _ => ?_
  repeat' first
    | refine k_then ?_ | refine c_seq ?_ | refine c_region ?_ | refine s_nil ?_ | refine s_move (by exact rfl) (by exact rfl) ?_ | refine s_assign (by exact rfl) (by exact rfl) ?_ | refine s_extract (by exact rfl) (by exact rfl) (by exact rfl) ?_ | refine s_ldk_box (by exact rfl) (by exact rfl) (by exact .tail _ (.head _)) (by exact rfl) (by exact rfl) ?_ | fail
  refine s_call (vs := [.agg #[.int .i64 n, v], .int .i64 k, .int .i64 s]) (by exact rfl) (by exact rfl) (fun w h => Asked_ok n v es k s w hs (ro_old h hr) (by omega)) ?_
  rw [hA]
  repeat' first
    | refine k_then ?_ | refine c_seq ?_ | refine c_region ?_ | refine s_nil ?_ | refine s_move (by exact rfl) (by exact rfl) ?_ | refine s_assign (by exact rfl) (by exact rfl) ?_ | refine s_eql (by exact rfl) (by exact rfl) (by exact rfl) ?_ | refine s_neq (by exact rfl) (by exact rfl) (by exact rfl) ?_ | refine c_skip ?_ | (refine c_cond_p (by exact rfl) (fun h => ?_) (fun h => ?_) <;> try (exfalso; omega)) | (refine g_case (by exact rfl) (by exact rfl) (fun h => ?_) (fun h => ?_) <;> try (exfalso; omega)) | refine w_move (by exact rfl) (by exact rfl) (by exact rfl) (by exact rfl) ?_ | refine w_ldk_box (by exact rfl) (by exact rfl) (by exact rfl) (by exact rfl) (by exact .tail _ (.head _)) (by exact rfl) (by exact rfl) ?_ | refine g_on (by exact rfl) (by exact rfl) ?_ | fail
  refine s_call (vs := [.agg #[.int .i64 n, v], vl]) (by exact rfl) (by exact rfl) (fun w h => refCheck_ok n v vl es (l.map fun z : Nat => (z : Int)) w hs (ro_old h hr) (by omega) (by rw [List.length_map]; exact hvl) (by rw [← nV_iV]; exact ro_own h (.head _))) ?_
  rw [hik]
  repeat' first
    | refine s_move (by exact rfl) (by exact rfl) ?_ | refine s_pick_t (by exact rfl) (by exact rfl) (by exact rfl) ?_ | (refine g_case (by exact rfl) (by exact rfl) (fun h => ?_) (fun h => ?_) <;> try (exfalso; omega)) | refine w_move (by exact rfl) (by exact rfl) (by exact rfl) (by exact rfl) ?_ | refine w_eql (by exact rfl) (by exact rfl) (by exact rfl) (by exact rfl) (by exact rfl) ?_ | refine w_ldk_box (by exact rfl) (by exact rfl) (by exact rfl) (by exact rfl) (by exact .tail _ (.head _)) (by exact rfl) (by exact rfl) ?_ | refine g_on (by exact rfl) (by exact rfl) ?_ | fail
  refine s_call (vs := [.agg #[.int .i64 n, v], vl, .int .i64 k, .int .i64 s]) (by exact rfl) (by exact rfl) (fun w h => refInside_ok n v es vl l k s o lab w hs (ro_old h hr) hR hL hk hvl (ro_own h (.head _)) hM.mem) ?_
  repeat' first
    | refine s_move (by exact rfl) (by exact rfl) ?_ | refine s_pick_t (by exact rfl) (by exact rfl) (by exact rfl) ?_ | refine w_move (by exact rfl) (by exact rfl) (by exact rfl) (by exact rfl) ?_ | refine w_len (by exact rfl) (by exact rfl) (by exact rfl) (by exact rfl) (by assumption) ?_ | refine w_ldk_box (by exact rfl) (by exact rfl) (by exact rfl) (by exact rfl) (by exact .tail _ (.head _)) (by exact rfl) (by exact rfl) ?_ | refine g_on (by exact rfl) (by exact rfl) ?_ | fail
  refine s_call (vs := [.agg #[.int .i64 n, v], .int .i64 k, .int .i64 s]) (by exact rfl) (by exact rfl) (fun w h => refMost20_ok n v es k s o lab l w hs (ro_old h hr) hR hL hk hM) ?_
  repeat' first
    | refine s_move (by exact rfl) (by exact rfl) ?_ | refine s_pick_t (by exact rfl) (by exact rfl) (by exact rfl) ?_ | (refine g_case (by exact rfl) (by exact rfl) (fun h => ?_) (fun h => ?_) <;> try (exfalso; omega)) | refine w_eql (by exact rfl) (by exact rfl) (by exact rfl) (by exact rfl) (by exact rfl) ?_ | refine g_on (by exact rfl) (by exact rfl) ?_ | fail
  refine s_call (vs := []) (by exact rfl) (by exact rfl) (fun w h => alive20_ok w) ?_
  repeat' first
    | refine k_then ?_ | refine s_nil ?_ | refine s_assign (by exact rfl) (by exact rfl) ?_ | refine s_pick_t (by exact rfl) (by exact rfl) (by exact rfl) ?_ | refine c_ret ?_ | fail
  refine ret1 [] rfl rfl (by exact rfl) ⟨rfl, rfl⟩
end Go.Proofs.YtpajjnkmaebhcabGreat
end
section
namespace Go.Proofs.YtpajjnkmaebhcabGreat
open Go.ChangeShapes Go.WideShapes Go.ChangeAt Go.RowKit Go.Joins Go.Deep Go.Sl Fil
set_option maxRecDepth 100000
set_option linter.unusedVariables false
set_option linter.unusedSimpArgs false
theorem row_own : ownKnob Tryz.prog.godebug = none := by kernel_rfl
theorem row_laid : laidOutB Tryz.prog = true := by kernel_rfl
theorem cells_graph : Tryz.prog.cellsOf 24 = 2 := by kernel_rfl
theorem cells_edge : Tryz.prog.cellsOf 37 = 3 := by kernel_rfl
theorem cells_int : Tryz.prog.cellsOf 3 = 1 := by kernel_rfl
section
variable {H : Type} {enc : TypeId × Value → H}
theorem slice_spot {P : Program} {w : World} {r : Reach} {base : Nat} {t e : TypeId} {a : Addr} {len cap : Nat} (hu : P.underlying t = some (.slice e)) (h : Cell.okWide P w r base t (.slice (some a) len cap)) : a.spot = none := by
  simp only [Cell.okWide, hu, Cell.ok, World.has] at h
  exact h.2.2.2.1
theorem es_list {n : Nat} {f : Nat → Nat → Value} (h : ∀ i, i < n → ∃ a b c, f i 0 = .int .i64 a ∧ f i 1 = .int .i64 b ∧ f i 2 = .int .i64 c) : ∃ es : List E, es.length = n ∧ ∀ (i : Nat) j u, i < n → j < 3 → (esV es)[i * 3 + j]? = some u → u = f i j := by
  induction n with
  | zero => exact ⟨[], rfl, fun i j u hi => by omega⟩
  | succ n ih =>
    obtain ⟨es, h1, h2⟩ := ih fun i hi => h i (by omega)
    obtain ⟨a, b, c, ha, hb, hc⟩ := h n (by omega)
    refine ⟨es ++ [(a, b, c)], by simp [h1], fun i j u hi hj hu => ?_⟩
    rw [esV_snoc] at hu
    have hl := esV_length es
    by_cases hin : i < n
    · rw [List.getElem?_append_left (by omega)] at hu
      exact h2 i j u hin hj hu
    · obtain rfl : i = n := by omega
      rw [List.getElem?_append_right (by omega), show i * 3 + j - (esV es).length = j from by omega] at hu
      match j, hj with
      | 0, _ => simp [eV] at hu; rw [← hu, ha]
      | 1, _ => simp [eV] at hu; rw [← hu, hb]
      | 2, _ => simp [eV] at hu; rw [← hu, hc]
theorem open_edges {W : World} {base fuel : Nat} {v : Value} {y : DataW H × List MemPlace} (hv : Cell.okWide Tryz.prog W .any base 22 v) (h : DataW.trod enc Tryz.prog W 0 (fun _ => true) true fuel 22 [v] = some y) :
    ∃ es : List E, Shp v es.length ∧ RO W No v (esV es) := by
  rcases open_slice Tryz.underlying22 h with ⟨hcs, _⟩ | ⟨a, len, cap, m, n, D, Pl, hcs, _, hl, hm, hmm, _, hx⟩
  · simp only [List.cons.injEq, and_true] at hcs
    subst hcs
    exact ⟨[], ⟨by simp [maxLen], .inl ⟨rfl, rfl⟩⟩, RO.of_rd fun j u hj => by simp [esV] at hj⟩
  · simp only [List.cons.injEq, and_true] at hcs
    subst hcs
    have hsp := slice_spot Tryz.underlying22 hv
    obtain ⟨g, off, sp⟩ := a
    dsimp only at hsp
    subst hsp
    simp only [if_true] at hmm
    subst hmm
    have key : ∀ i, i < len → ∃ a b c, W.cell? ⟨g, off + (i * 3 + 0), none⟩ = some (.int .i64 a) ∧ W.cell? ⟨g, off + (i * 3 + 1), none⟩ = some (.int .i64 b) ∧ W.cell? ⟨g, off + (i * 3 + 2), none⟩ = some (.int .i64 c) := by
      intro i hi
      obtain ⟨cs, h1, h2⟩ := hx i (by omega)
      rw [cells_edge] at h1
      obtain ⟨_, hlen, hc⟩ := World.cells?_some h1
      obtain ⟨y0, y1, y2, k, _, _, t0, t1, t2⟩ := trod_struct3 Tryz.underlying37 h2
      obtain ⟨a, e0, -, -⟩ := DataW.trod_int Tryz.underlying3 t0
      obtain ⟨b, e1, -, -⟩ := DataW.trod_int Tryz.underlying3 t1
      obtain ⟨c, e2, -, -⟩ := DataW.trod_int Tryz.underlying2 t2
      match cs, hlen, hc, e0, e1, e2 with
      | [x0, x1, x2], _, hc, e0, e1, e2 =>
        have c0 := hc 0 (by omega)
        have c1 := hc 1 (by omega)
        have c2 := hc 2 (by omega)
        have f0 : x0 = .int .i64 a := by
          have : [x0] = [.int .i64 a] := e0
          simpa using this
        have f1 : x1 = .int .i64 b := by
          have : [x1] = [.int .i64 b] := e1
          simpa using this
        have f2 : x2 = .int .i64 c := by
          have : [x2] = [.int .i64 c] := e2
          simpa using this
        subst f0 f1 f2
        refine ⟨a, b, c, ?_, ?_, ?_⟩
        · rw [Deep.add_add] at c0
          rw [show (⟨g, off + (i * 3 + 0), none⟩ : Addr) = (⟨g, off, none⟩ : Addr).add (i * 3 + 0) from by simp [Addr.add]]
          exact c0
        · rw [Deep.add_add] at c1
          rw [show (⟨g, off + (i * 3 + 1), none⟩ : Addr) = (⟨g, off, none⟩ : Addr).add (i * 3 + 1) from by simp [Addr.add]]
          exact c1
        · rw [Deep.add_add] at c2
          rw [show (⟨g, off + (i * 3 + 2), none⟩ : Addr) = (⟨g, off, none⟩ : Addr).add (i * 3 + 2) from by simp [Addr.add]]
          exact c2
    obtain ⟨es, he1, he2⟩ := es_list (n := len) (f := fun i j => (W.cell? ⟨g, off + (i * 3 + j), none⟩).getD undef) (fun i hi => by
      obtain ⟨a, b, c, h0, h1, h2⟩ := key i hi
      exact ⟨a, b, c, congrArg (fun x => Option.getD x undef) h0, congrArg (fun x => Option.getD x undef) h1, congrArg (fun x => Option.getD x undef) h2⟩)
    subst he1
    refine ⟨es, ⟨by omega, .inr (.inl ⟨g, off, m, rfl, hl, hm⟩)⟩, RO.of_rd fun j u hj => ⟨g, off, es.length, m, rfl, ?_⟩⟩
    have hlt := (List.getElem?_eq_some_iff.1 hj).1
    rw [esV_length] at hlt
    have hd : j / 3 * 3 + j % 3 = j := by omega
    have hu := he2 (j / 3) (j % 3) u (by omega) (by omega) (by rw [hd]; exact hj)
    rw [hd] at hu
    obtain ⟨a, b, c, h0, h1, h2⟩ := key (j / 3) (by omega)
    have hex : ∃ x, W.cell? ⟨g, off + j, none⟩ = some x := by
      have : j % 3 = 0 ∨ j % 3 = 1 ∨ j % 3 = 2 := by omega
      rcases this with h | h | h
      · exact ⟨_, by rw [← hd, h]; exact h0⟩
      · exact ⟨_, by rw [← hd, h]; exact h1⟩
      · exact ⟨_, by rw [← hd, h]; exact h2⟩
    obtain ⟨x, hx⟩ := hex
    rw [hx] at hu ⊢
    rw [hu]
    rfl
theorem open_graph {W : World} {base : Nat} {v : Value} {d : DataW H} {p : List MemPlace} (hv : Value.okWide Tryz.prog W .any base 24 v) (h : DataW.Trod enc Tryz.prog W 0 (fun _ => true) true 24 v d p) :
    ∃ (n : Int) (u : Value) (es : List E), v = .agg #[.int .i64 n, u] ∧ Shp u es.length ∧ RO W No u (esV es) := by
  obtain ⟨c0, c1, y0, y1, m, rfl, -, -, hy0, hy1⟩ := open_agg2 Tryz.underlying24 (by kernel_rfl) cells_graph hv h
  obtain ⟨a, e0, -, -⟩ := DataW.trod_int Tryz.underlying3 hy0
  simp only [List.cons.injEq, and_true] at e0
  subst e0
  have hc : Cell.okWide Tryz.prog W .any base 22 c1 := by
    simp only [Value.okWide, Tryz.underlying24] at hv
    obtain ⟨cs, hcs, _, ts, hts, _, hall⟩ := hv
    obtain rfl : cs = #[.int .i64 a, c1] := by simpa using hcs.symm
    have e : Tryz.prog.cellTypes Tryz.prog.depth 24 = some [3, 22] := by kernel_rfl
    rw [e] at hts
    obtain rfl : [3, 22] = ts := by simpa using hts
    obtain ⟨u, hu, hok⟩ := hall 1 c1 rfl
    obtain rfl : 22 = u := by simpa using hu
    exact hok
  obtain ⟨es, h1, h2⟩ := open_edges hc hy1
  exact ⟨a, c1, es, rfl, h1, h2⟩
end
end Go.Proofs.YtpajjnkmaebhcabGreat
end
section
namespace Go.Proofs.YtpajjnkmaebhcabGreat
open Go.ChangeShapes Go.WideShapes Go.ChangeAt Go.RowKit Go.Joins Go.Deep Go.Sl Fil
set_option maxRecDepth 100000
set_option linter.unusedVariables false
set_option linter.unusedSimpArgs false
section
variable {H : Type} {enc : TypeId × Value → H}
theorem okc_one {W : World} {base : Nat} {v x : Value} (hc : Cell.okWide Tryz.prog W .any base 28 v) (h : v.cells.toList = [x]) : v = x := by
  cases v with
  | agg cs => simp [Cell.okWide, Tryz.underlying28, Cell.ok] at hc
  | _ => simpa [Value.cells] using h
theorem open_numbersw {W : World} {base : Nat} {v : Value} {d : DataW H} {p : List MemPlace} (hv : Value.okWide Tryz.prog W .any base 28 v) (h : DataW.Trod enc Tryz.prog W 0 (fun _ => true) true 28 v d p) :
    ∃ zs : List Int, Shp v zs.length ∧ RO W No v (iV zs) ∧ ∀ z ∈ zs, (Lit.int .i64 z).wf = true := by
  obtain ⟨fuel, hf⟩ := h
  have hc : Cell.okWide Tryz.prog W .any base 28 v := by
    simp only [Value.okWide, Tryz.underlying28] at hv
    exact hv
  rcases open_ints Tryz.underlying28 Tryz.underlying3 cells_int hf with ⟨hcs, _⟩ | ⟨a, len, cap, zs, hcs, _, hl, hm, hzl, _, hx, hw⟩
  · have hv0 : v = .slice none 0 0 := okc_one hc hcs
    subst hv0
    exact ⟨[], ⟨by simp [maxLen], .inl ⟨rfl, rfl⟩⟩, RO.of_rd fun j u hj => by simp [iV] at hj, by simp⟩
  · have hv0 : v = .slice (some a) len cap := okc_one hc hcs
    subst hv0
    have hsp := slice_spot Tryz.underlying28 hc
    obtain ⟨g, off, sp⟩ := a
    dsimp only at hsp
    subst hsp
    rw [if_pos rfl] at hzl
    have htl : (zs.take len).length = len := by rw [List.length_take]; omega
    refine ⟨zs.take len, ⟨by rw [htl]; omega, .inr (.inl ⟨g, off, cap, by rw [htl], by rw [htl]; exact hl, hm⟩)⟩, RO.of_rd fun j u hj => ⟨g, off, len, cap, rfl, ?_⟩, fun z hz => hw z (List.mem_of_mem_take hz)⟩
    have hlt := (List.getElem?_eq_some_iff.1 hj).1
    simp only [iV, List.length_map, htl] at hlt
    have h2 := hx j (by omega)
    rw [show (⟨g, off, none⟩ : Addr).add j = ⟨g, off + j, none⟩ from by simp [Addr.add]] at h2
    rw [h2, ← hj]
    simp only [iV, List.getElem?_map, List.getElem?_take, if_pos hlt]
    rw [List.getD_eq_getElem?_getD, List.getElem?_eq_getElem (by omega)]
    rfl
theorem open_numbers {W : World} {base : Nat} {v : Value} {d : DataW H} {p : List MemPlace} (hv : Value.okWide Tryz.prog W .any base 28 v) (h : DataW.Trod enc Tryz.prog W 0 (fun _ => true) true 28 v d p) :
    ∃ zs : List Int, Shp v zs.length ∧ RO W No v (iV zs) := (open_numbersw hv h).imp fun _ h => ⟨h.1, h.2.1⟩
end
end Go.Proofs.YtpajjnkmaebhcabGreat
end
