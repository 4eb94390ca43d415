/- Package parts: what hangs together. -/
import Derived.Test.YtkekpgkacjpjnaaArcs
import Derived.Test.YtkekpgkacjpjnaaPComp
import Derived.Test.YtkekpgkacjpjnaaKept
namespace Go.Sl
open Go Go.RowKit
theorem aV_at {l : List (Nat × Nat)} {j : Nat} {a : Nat × Nat} (h : l[j]? = some a) : ((aV l).drop (j * 2)).take 2 = [.int .i64 (a.1 : Int), .int .i64 (a.2 : Int)] := by
  induction l generalizing j with
  | nil => simp at h
  | cons x l ih =>
    cases j with
    | zero =>
      obtain rfl : x = a := by simpa using h
      rfl
    | succ j =>
      have := ih (j := j) (by simpa using h)
      rw [show (j + 1) * 2 = j * 2 + 2 from by omega]
      exact this
end Go.Sl
namespace Go.Proofs.Ytkekpgkacjpjnaa
open Go.RowKit Go.Sl Fil
set_option maxRecDepth 100000
set_option maxHeartbeats 8000000
set_option linter.unusedVariables false
set_option linter.unusedSimpArgs false
attribute [local irreducible] Code.wp wpList bodyPost wpQuiet Exit.then Exit.inBlock Post wpAnyH wpOp

theorem Components_ok (n : Int) (v : Value) (es : List E) (w : World) (hs : Shp v es.length) (hr : RO w No v (esV es)) (hR : RightG n es) :
    Calls Try.prog 44 #[.agg #[.int .i64 n, v]] w (Post w No fun r L' => ∃ (met : List Bool) (out : List Nat) (lab : Nat → Nat) (hr : List Value), Bfs n.toNat (nb (tn es)) n.toNat met out lab [] ∧ hr.length = (compsL n.toNat n.toNat met lab).length ∧ L' = [rowHP r 27 1 (compsL n.toNat n.toNat met lab).length hr, starHP (kids rowN hr (compsL n.toNat n.toNat met lab))]) := by
  have hR0 := right_iff.2 hR
  have hm : es.length < 4611686018427387904 := by have := hR.many; omega
  have hlo := hR.lo
  have hhi := hR.hi
  have hA := hR.good.adj
  refine enter0 (vs := [_]) Try.func44 rfl Try.ntmps44 rfl ?_
  repeat' first
    | refine k_then ?_
    | refine c_seq ?_
    | refine c_region ?_
    | refine s_nil ?_
    | refine s_assign (by exact rfl) (by exact rfl) ?_
    | refine s_ldk_box (by exact rfl) (by exact rfl) (by exact .head _) (by exact rfl) (by exact rfl) ?_
    | refine o_box (by exact rfl) (by exact rfl) (fun b => ?_)
  refine s_call (by exact rfl) (by exact rfl) (fun w h => Right_ok n v es w hs (ro_old h hr) hm) ?_
  repeat' first
    | refine k_then ?_
    | refine c_seq ?_
    | refine c_region ?_
    | refine s_nil ?_
    | refine s_neq (by exact rfl) (by exact rfl) (by exact rfl) ?_
    | refine s_ldk_box (by exact rfl) (by exact rfl) (by exact .head _) (by exact rfl) (by exact rfl) ?_
    | refine c_skip ?_
    | (refine c_cond_p (by exact rfl) (fun h => ?_) (fun h => ?_) <;> try (exfalso; omega))
  refine o_call (by exact rfl) (by exact rfl) (fun w h => arcs_ok n v es w hs (ro_old h hr) hR) ?_
  rintro va _ ⟨ha, hla, rfl⟩
  refine know_row (v := va) (.head _) fun hva _ => ?_
  repeat' first
    | refine k_then ?_
    | refine c_seq ?_
    | refine c_region ?_
    | refine s_nil ?_
    | refine s_assign (by exact rfl) (by exact rfl) ?_
    | refine s_fa (by exact rfl) (by exact rfl) ?_
    | refine s_ld_box (by exact rfl) (by exact rfl) (by exact .tail _ (.tail _ (.head _))) (by exact rfl) ?_
  refine o_make (by exact rfl) (by exact rfl) (by exact rfl) (by omega) (by omega) fun vm hvm => ?_
  rw [made1 (z := .bool false) rfl]
  repeat' first
    | refine k_then ?_
    | refine c_seq ?_
    | refine c_region ?_
    | refine s_nil ?_
    | refine s_move (by exact rfl) (by exact rfl) ?_
    | refine s_assign (by exact rfl) (by exact rfl) ?_
    | refine s_fa (by exact rfl) (by exact rfl) ?_
    | refine s_ld_box (by exact rfl) (by exact rfl) (by exact .tail _ (.tail _ (.tail _ (.head _)))) (by exact rfl) ?_
    | refine c_block ?_
  have hal : ∀ x, (ab (tn es) x).length ≤ 4194304 := fun x => by
    have h1 := ab_length (tn es) x
    have h2 := hR.many
    rw [tn_length] at h1
    omega
  generalize hl : tn es = l at *
  generalize hN : n.toNat = N at *
  have hnN : n = (N : Int) := by omega
  subst hnN
  refine c_nil 27 1 ?_
  refine c_star0 ?_
  refine c_loop (fun x : Nat × List Bool × List Nat × (Nat → Nat) × Value × List Value => x.1 ≤ N ∧ Bfs N (nb l) x.1 x.2.1 x.2.2.1 x.2.2.2.1 [] ∧ x.2.2.2.2.2.length = (compsL N x.1 x.2.1 x.2.2.2.1).length ∧ ∀ u, x.2.1.getD u false = true → x.2.2.2.1 u < x.1) (fun x => [(2, x.2.2.2.2.1), (3, va), (4, vm), (19, .int .i64 (N : Int)), (20, .int .i64 (x.1 : Int))])
    (fun x => [rowHP vm 4 1 N (bV x.2.1), rowHP x.2.2.2.2.1 27 1 (compsL N x.1 x.2.1 x.2.2.2.1).length x.2.2.2.2.2, starHP (kids rowN x.2.2.2.2.2 (compsL N x.1 x.2.1 x.2.2.2.1)), rowHP va 87 1 N ha, starHP (kids rowA ha (arcsL N l))]) (fun x => N - x.1) (0, List.replicate N false, List.replicate N 0, (fun _ => 0), .slice none 0 0, []) [2, 1, 0, 0, 0] ⟨Nat.zero_le _, Bfs.init N (nb l), rfl, ?_⟩ ?_ ⟨rfl, rfl, rfl, rfl, rfl, trivial⟩ ?_
  · intro u hu
    simp only [List.getD_eq_getElem?_getD, List.getElem?_replicate] at hu
    split at hu <;> simp at hu
  · simp only [bV, List.map_replicate]
    rfl
  rintro ⟨i, met, out, lab, vr, hr0⟩ ⟨hi, hB, hhr, hLt⟩
  dsimp only at hi hB hhr hLt ⊢
  by_cases hlt : i < N
  · have hmi := bV_get (l := met) (k := i) (by rw [hB.lm]; exact hlt)
    cases hmet : met.getD i false
    · rw [hmet] at hmi
      repeat' first
        | refine k_then ?_
        | refine c_seq ?_
        | refine c_region ?_
        | refine s_nil ?_
        | refine s_move (by exact rfl) (by exact rfl) ?_
        | refine s_assign (by exact rfl) (by exact rfl) ?_
        | refine s_lss (by exact rfl) (by exact rfl) (by exact rfl) ?_
        | refine s_idx (by exact rfl) (by exact rfl) (by exact rfl) (by assumption) (by first | assumption | omega) ?_
        | refine s_ld_row (by exact rfl) (by exact rfl) (by exact .head _) (by assumption) ?_
        | refine c_block ?_
        | refine c_skip ?_
        | (refine c_cond_p (by exact rfl) (fun h => ?_) (fun h => ?_) <;> try (exfalso; omega))
        | refine c_cond_f (by exact rfl) ?_
      refine o_st_row (i := 0) (by exact rfl) (by exact rfl) (by exact rfl) rfl (by omega) ?_
      repeat' first
        | refine k_then ?_
        | refine c_seq ?_
        | refine c_region ?_
        | refine s_nil ?_
        | refine s_move (by exact rfl) (by exact rfl) ?_
      rw [bV_set]
      refine o_mk [.int .i64 (i : Int)] (by exact rfl) (by exact rfl) rfl ?_ ?_ (by simp) fun vl0 hvl0 => ?_
      · simp [Value.cells]
      · simp
      repeat' first
        | refine k_then ?_
        | refine c_seq ?_
        | refine c_region ?_
        | refine s_nil ?_
        | refine s_assign (by exact rfl) (by exact rfl) ?_
        | refine c_block ?_
      have hBs := hB.start hlt hmet
      have hP := Part.start hlt hB.lm hLt
      have hC := comps_step (N := N) (lab := lab) hmet hB.below
      generalize hcs : compsL N i met lab = cs at *
      clear hcs
      refine c_loop (fun x : Value × List Nat × Nat × List Bool × List Nat × (Nat → Nat) => x.2.2.1 ≤ x.2.1.length ∧ Bfs N (nb l) i x.2.2.2.1 x.2.2.2.2.1 x.2.2.2.2.2 (x.2.1.drop x.2.2.1) ∧ Part N i x.2.2.2.1 x.2.2.2.2.2 x.2.1 ∧ compsL N i x.2.2.2.1 x.2.2.2.2.2 = cs ∧ x.2.2.2.1.getD i false = true ∧ x.2.2.2.2.2 i = i)
        (fun x => [(2, vr), (3, va), (4, vm), (5, .int .i64 (i : Int)), (6, x.1), (7, .int .i64 (x.2.2.1 : Int)), (19, .int .i64 (N : Int)), (20, .int .i64 (i : Int))])
        (fun x => [rowHP x.1 3 1 x.2.1.length (nV x.2.1), rowHP vm 4 1 N (bV x.2.2.2.1), rowHP vr 27 1 cs.length hr0, starHP (kids rowN hr0 cs), rowHP va 87 1 N ha, starHP (kids rowA ha (arcsL N l))])
        (fun x => 2 * unmet x.2.2.2.1 + (x.2.1.length - x.2.2.1)) (vl0, [i], 0, met.set i true, out, fun x => if x = i then i else lab x) [0, 0, 0, 0, 0, 0] ⟨Nat.zero_le _, hBs, hP, hC, hBs.line_met i (by simp), by simp⟩ (by exact rfl) ⟨rfl, rfl, rfl, rfl, rfl, rfl, rfl, rfl, trivial⟩ ?_
      clear hBs hP hC hmi hmet hB hvl0 hLt
      clear vl0 out lab met
      rintro ⟨vp, part, at0, met, out, lab⟩ ⟨hat, hB, hP, hC, hmi, hli⟩
      dsimp only at hat hB hP hC hmi hli ⊢
      refine know_row (v := vp) (.head _) fun hvp _ => ?_
      have hpl := hP.length_le
      by_cases hal0 : at0 < part.length
      · obtain ⟨x, hx⟩ : ∃ x, part[at0]? = some x := ⟨_, List.getElem?_eq_getElem hal0⟩
        have hdrop : part.drop at0 = x :: part.drop (at0 + 1) := by
          obtain ⟨h1, h2⟩ := List.getElem?_eq_some_iff.1 hx
          rw [List.drop_eq_getElem_cons h1, h2]
        rw [hdrop] at hB
        have hxN := hB.line_lt x (by simp)
        have hAx := hal x
        have hx0 : (nV part)[at0 * 1]? = some (.int .i64 (x : Int)) := by simp [nV, hx]
        obtain ⟨hd, hhd⟩ : ∃ hd, ha[x * 1]? = some hd := ⟨_, List.getElem?_eq_getElem (by omega)⟩
        have hK : rowHP hd 89 2 (ab l x).length (aV (ab l x)) ∈ kids rowA ha (arcsL N l) := kids_mem (f := rowA) (k := x) (by simpa using hhd) (arcs_get hxN)
        refine know_kid (Ks := kids rowA ha (arcsL N l)) (.tail _ (.tail _ (.tail _ (.tail _ (.tail _ (.head _)))))) hK fun hhs _ => ?_
        repeat' first
          | refine k_then ?_
          | refine c_seq ?_
          | refine c_region ?_
          | refine s_nil ?_
          | refine s_move (by exact rfl) (by exact rfl) ?_
          | refine s_lss (by exact rfl) (by exact rfl) (by exact rfl) ?_
          | refine s_len (by exact rfl) (by exact rfl) (by assumption) ?_
          | refine s_idx (by exact rfl) (by exact rfl) (by exact rfl) (by assumption) (by first | assumption | omega) ?_
          | refine s_ld_row (by exact rfl) (by exact rfl) (by first | exact .head _ | exact .tail _ (.tail _ (.tail _ (.tail _ (.head _))))) (by assumption) ?_
          | refine c_block ?_
          | refine c_skip ?_
          | (refine c_cond_p (by exact rfl) (fun h => ?_) (fun h => ?_) <;> try (exfalso; omega))
        refine c_loop (fun y : Nat × Value × List Nat × List Bool × List Nat × (Nat → Nat) => y.1 ≤ (ab l x).length ∧ Bfs N (nb l) i y.2.2.2.1 y.2.2.2.2.1 y.2.2.2.2.2 (x :: y.2.2.1.drop (at0 + 1)) ∧ Seen (nb l) i y.2.2.2.1 y.2.2.2.2.1 y.2.2.2.2.2 x y.1 ∧ Part N i y.2.2.2.1 y.2.2.2.2.2 y.2.2.1 ∧ compsL N i y.2.2.2.1 y.2.2.2.2.2 = cs ∧ y.2.2.2.1.getD i false = true ∧ y.2.2.2.2.2 i = i ∧ at0 < y.2.2.1.length ∧ 2 * unmet y.2.2.2.1 + y.2.2.1.length ≤ 2 * unmet met + part.length)
          (fun y => [(2, vr), (3, va), (4, vm), (5, .int .i64 (i : Int)), (6, y.2.1), (7, .int .i64 (at0 : Int)), (19, .int .i64 (N : Int)), (20, .int .i64 (i : Int)), (44, hd), (45, .int .i64 ((ab l x).length : Int)), (46, .int .i64 (y.1 : Int))])
          (fun y => [rowHP y.2.1 3 1 y.2.2.1.length (nV y.2.2.1), rowHP vm 4 1 N (bV y.2.2.2.1), rowHP vr 27 1 cs.length hr0, starHP (kids rowN hr0 cs), rowHP va 87 1 N ha, starHP (kids rowA ha (arcsL N l))])
          (fun y => (ab l x).length - y.1) (0, vp, part, met, out, lab) [0, 0, 0, 0, 0, 0] ⟨Nat.zero_le _, hB, fun u hu => by simp at hu, hP, hC, hmi, hli, hal0, Nat.le_refl _⟩ (by exact rfl) ⟨rfl, rfl, rfl, rfl, rfl, rfl, rfl, rfl, rfl, rfl, rfl, trivial⟩ ?_
        clear hB hP hC hx0 hvp hmi hli
        rintro ⟨j, vq, part2, met2, out2, lab2⟩ ⟨hj, hB, hS, hP, hC, hmi, hli, hat2, hM2⟩
        dsimp only at hj hB hS hP hC hmi hli hat2 hM2 ⊢
        refine know_row (v := vq) (.head _) fun hvq _ => ?_
        have hpl2 := hP.length_le
        by_cases hjl : j < (ab l x).length
        · obtain ⟨a, hja⟩ : ∃ a, (ab l x)[j]? = some a := ⟨_, List.getElem?_eq_getElem hjl⟩
          have hu : (nb l x)[j]? = some a.1 := by rw [← ab_fst, List.getElem?_map, hja]; rfl
          have hun := hA.lt x hxN a.1 (List.mem_of_getElem? hu)
          have hju := aV_at hja
          have hmu := bV_get (l := met2) (k := a.1) (by rw [hB.lm]; exact hun)
          cases hmet : met2.getD a.1 false
          · rw [hmet] at hmu
            have hum := unmet_set (by rw [hB.lm]; exact hun) hmet
            obtain ⟨hB2, hS2⟩ := hB.new hA hS hu hmet
            have hP2 := hP.new hun hB.lm hmet
            have hC2 := comps_step (N := N) (lab := lab2) hmet hB.below
            repeat' first
              | refine k_then ?_
              | refine c_seq ?_
              | refine c_region ?_
              | refine s_nil ?_
              | refine s_lss (by exact rfl) (by exact rfl) (by exact rfl) ?_
              | refine s_idx (by exact rfl) (by exact rfl) (by exact rfl) (by assumption) (by first | assumption | omega) ?_
              | refine s_ldk_kid (by exact rfl) (by exact rfl) (by assumption) (by exact .tail _ (.tail _ (.tail _ (.tail _ (.tail _ (.head _)))))) (by decide) (by assumption) (by exact rfl) ?_
              | refine o_alloc (by exact rfl) (fun b => ?_)
              | refine c_block ?_
              | refine c_skip ?_
              | (refine c_cond_p (by exact rfl) (fun h => ?_) (fun h => ?_) <;> try (exfalso; omega))
            refine o_stk_box (i := 0) (us := [.int .i64 (a.1 : Int), .int .i64 (a.2 : Int)]) (by exact rfl) (by exact rfl) (by exact rfl) (by exact rfl) (by exact rfl) (by simp [Value.oneCell']) (by simp [Value.cells]) ?_
            repeat' first
              | refine k_then ?_
              | refine c_seq ?_
              | refine c_region ?_
              | refine s_nil ?_
              | refine s_move (by exact rfl) (by exact rfl) ?_
              | refine s_fa (by exact rfl) (by exact rfl) ?_
              | refine s_ld_box (by exact rfl) (by exact rfl) (by exact .head _) (by exact rfl) ?_
              | refine s_not (by exact rfl) (by exact rfl) ?_
              | refine s_idx (by exact rfl) (by exact rfl) (by exact rfl) (by assumption) (by first | assumption | omega) ?_
              | refine s_ld_row (by exact rfl) (by exact rfl) (by exact .tail _ (.tail _ (.head _))) (by assumption) ?_
              | refine c_cond_t (by exact rfl) ?_
            refine o_st_row (i := 2) (by exact rfl) (by exact rfl) (by exact rfl) rfl (by omega) ?_
            repeat' first
              | refine k_then ?_
              | refine c_region ?_
              | refine s_nil ?_
              | refine s_move (by exact rfl) (by exact rfl) ?_
              | refine s_fa (by exact rfl) (by exact rfl) ?_
              | refine s_ld_box (by exact rfl) (by exact rfl) (by exact .head _) (by exact rfl) ?_
            rw [bV_set]
            refine o_mk [.int .i64 (a.1 : Int)] (by exact rfl) (by exact rfl) rfl ?_ ?_ (by simp) fun vt hvt => ?_
            · simp [Value.cells]
            · simp
            skip
            refine o_append_row (i := 2) (by exact rfl) (by exact rfl) (by exact rfl) (by exact rfl) (by exact .head _) (by exact rfl) (by simp [Value.cells, Value.oneCell']) ?_ fun vl2 hvl2 => ?_
            · omega
            repeat' first
              | refine k_then ?_
              | refine c_region ?_
              | refine s_nil ?_
              | refine s_move (by exact rfl) (by exact rfl) ?_
              | refine s_assign (by exact rfl) (by exact rfl) ?_
              | refine s_add (by exact rfl) (by exact rfl) (by exact rfl) (by omega) ?_
              | refine k_blk ?_
            refine c_round (j + 1, vl2, part2 ++ [a.1], met2.set a.1 true, out2.set a.1 (out2.getD x 0 + 1), fun z => if z = a.1 then i else lab2 z) [2, 2, 2, 2, 2, 2] ?_ (by exact ⟨rfl, rfl, rfl, rfl, rfl, rfl, rfl, rfl, rfl, rfl, rfl, trivial⟩) ⟨by omega, ?_, hS2, hP2, by rw [hC2]; exact hC, ?_, ?_, ?_, ?_⟩ (by dsimp only; omega)
            · show pick [_, _, _, _, _, _, _, _] [2, 2, 2, 2, 2, 2] = some [_, _, _, _, _, _]
              have e1 : rowHP vl2 3 1 (part2.length + 1) (nV part2 ++ [Value.int .i64 (a.1 : Int)]) = rowHP vl2 3 1 (part2 ++ [a.1]).length (nV (part2 ++ [a.1])) := by simp [nV]
              rw [← e1]
              rfl
            · dsimp only
              rw [List.drop_append_of_le_length (by omega)]
              exact hB2
            · dsimp only
              rw [getD_set]
              split
              · rfl
              · exact hmi
            · dsimp only
              split
              · rfl
              · exact hli
            · simp; omega
            · simp only [List.length_append, List.length_singleton]
              omega
          · rw [hmet] at hmu
            repeat' first
              | refine k_then ?_
              | refine c_seq ?_
              | refine c_region ?_
              | refine s_nil ?_
              | refine s_lss (by exact rfl) (by exact rfl) (by exact rfl) ?_
              | refine s_idx (by exact rfl) (by exact rfl) (by exact rfl) (by assumption) (by first | assumption | omega) ?_
              | refine s_ldk_kid (by exact rfl) (by exact rfl) (by assumption) (by exact .tail _ (.tail _ (.tail _ (.tail _ (.tail _ (.head _)))))) (by decide) (by assumption) (by exact rfl) ?_
              | refine o_alloc (by exact rfl) (fun b => ?_)
              | refine c_block ?_
              | refine c_skip ?_
              | (refine c_cond_p (by exact rfl) (fun h => ?_) (fun h => ?_) <;> try (exfalso; omega))
            refine o_stk_box (i := 0) (us := [.int .i64 (a.1 : Int), .int .i64 (a.2 : Int)]) (by exact rfl) (by exact rfl) (by exact rfl) (by exact rfl) (by exact rfl) (by simp [Value.oneCell']) (by simp [Value.cells]) ?_
            repeat' first
              | refine k_then ?_
              | refine c_seq ?_
              | refine c_region ?_
              | refine s_nil ?_
              | refine s_move (by exact rfl) (by exact rfl) ?_
              | refine s_fa (by exact rfl) (by exact rfl) ?_
              | refine s_ld_box (by exact rfl) (by exact rfl) (by exact .head _) (by exact rfl) ?_
              | refine s_add (by exact rfl) (by exact rfl) (by exact rfl) (by omega) ?_
              | refine s_not (by exact rfl) (by exact rfl) ?_
              | refine s_idx (by exact rfl) (by exact rfl) (by exact rfl) (by assumption) (by first | assumption | omega) ?_
              | refine s_ld_row (by exact rfl) (by exact rfl) (by exact .tail _ (.tail _ (.head _))) (by assumption) ?_
              | refine c_skip ?_
              | refine k_blk ?_
              | refine c_cond_f (by exact rfl) ?_
            refine c_round (j + 1, vq, part2, met2, out2, lab2) [1, 1, 1, 1, 1, 1] (by exact rfl) (by exact ⟨rfl, rfl, rfl, rfl, rfl, rfl, rfl, rfl, rfl, rfl, rfl, trivial⟩) ⟨by omega, hB, hB.old hA hS hu hmet, hP, hC, hmi, hli, hat2, hM2⟩ (by dsimp only; omega)
        · obtain rfl : j = (ab l x).length := by omega
          repeat' first
            | refine k_then ?_
            | refine c_seq ?_
            | refine c_region ?_
            | refine s_nil ?_
            | refine s_move (by exact rfl) (by exact rfl) ?_
            | refine s_assign (by exact rfl) (by exact rfl) ?_
            | refine s_lss (by exact rfl) (by exact rfl) (by exact rfl) ?_
            | refine s_add (by exact rfl) (by exact rfl) (by exact rfl) (by omega) ?_
            | refine c_exit ?_
            | refine k_then_exit ?_
            | refine k_blk ?_
            | refine k_blk_eq ?_
            | (refine c_cond_p (by exact rfl) (fun h => ?_) (fun h => ?_) <;> try (exfalso; omega))
          have hnl : (nb l x).length = (ab l x).length := by rw [← ab_fst, List.length_map]
          refine c_round (vq, part2, at0 + 1, met2, out2, lab2) [0, 0, 0, 0, 0, 0] (by exact rfl) (by exact ⟨rfl, rfl, rfl, rfl, rfl, rfl, rfl, rfl, trivial⟩) ⟨by dsimp only; omega, hB.pop (by rw [hnl]; exact hS), hP, hC, hmi, hli⟩ (by dsimp only; omega)
      · repeat' first
          | refine k_then ?_
          | refine c_seq ?_
          | refine c_region ?_
          | refine s_nil ?_
          | refine s_move (by exact rfl) (by exact rfl) ?_
          | refine s_lss (by exact rfl) (by exact rfl) (by exact rfl) ?_
          | refine s_len (by exact rfl) (by exact rfl) (by assumption) ?_
          | refine c_exit ?_
          | refine k_then_exit ?_
          | refine k_blk_eq ?_
          | (refine c_cond_p (by exact rfl) (fun h => ?_) (fun h => ?_) <;> try (exfalso; omega))
        have hdn : part.drop at0 = [] := List.drop_eq_nil_of_le (by omega)
        rw [hdn] at hB
        have hca := comps_add (N := N) hli hP.nodup hP.mem
        have hcl := compsL_length N i met lab
        rw [hC] at hca hcl
        refine s_lend [rowHP vp 3 1 part.length (nV part)] _ (by exact rfl) (by exact rfl) (by exact rfl) (fun w S h => nsort_row (sats_mem h.own (.head _)) (by omega)) ?_
        rintro _ _ ⟨rfl, rfl⟩
        repeat' first
          | refine k_then ?_
          | refine c_region ?_
          | refine s_nil ?_
          | refine s_move (by exact rfl) (by exact rfl) ?_
        refine o_mk [vp] (by exact rfl) (by exact rfl) rfl ?_ ?_ (by simp) fun vt hvt => ?_
        · intro u hu
          obtain rfl : u = vp := by simpa using hu
          rw [← Array.length_toList, one_cells hvp.one]; rfl
        · simp
        rw [show ([vp].flatMap fun u => u.cells.toList) = [vp] from by simp [one_cells hvp.one]]
        skip
        refine o_append_row (i := 3) (by exact rfl) (by exact rfl) (by exact rfl) (by exact rfl) (by exact .head _) (by exact rfl) (by simp [hvp.one]) ?_ fun vr2 hvr2 => ?_
        · omega
        repeat' first
          | refine k_then ?_
          | refine c_region ?_
          | refine s_nil ?_
          | refine s_move (by exact rfl) (by exact rfl) ?_
          | refine s_assign (by exact rfl) (by exact rfl) ?_
          | refine s_add (by exact rfl) (by exact rfl) (by exact rfl) (by omega) ?_
          | refine k_blk ?_
        have e1 : rowHP vp 3 1 part.length (nV (part.mergeSort fun x y => decide (x ≤ y))) = rowN vp (part.mergeSort fun x y => decide (x ≤ y)) := by simp [rowN]
        refine c_pick [1, 1, 1, 1, 1, 1] (by exact rfl) ?_
        rw [e1]
        refine c_pushk 2 (by exact rfl) ?_
        refine c_round (i + 1, met, out, lab, vr2, hr0 ++ [vp]) [0, 0, 0, 0, 0] ?_ (by exact ⟨rfl, rfl, rfl, rfl, rfl, trivial⟩) ⟨by omega, hB.next hmi, ?_, fun u hu => by have := hP.le u hu; dsimp only; omega⟩ (by dsimp only; omega)
        · dsimp only
          rw [hca, kids_append hhr, List.length_append]
          rfl
        · dsimp only
          rw [hca, List.length_append, List.length_append, hhr]
          rfl
    · rw [hmet] at hmi
      repeat' first
        | refine k_then ?_
        | refine c_seq ?_
        | refine c_region ?_
        | refine s_nil ?_
        | refine s_move (by exact rfl) (by exact rfl) ?_
        | refine s_assign (by exact rfl) (by exact rfl) ?_
        | refine s_lss (by exact rfl) (by exact rfl) (by exact rfl) ?_
        | refine s_add (by exact rfl) (by exact rfl) (by exact rfl) (by omega) ?_
        | refine s_idx (by exact rfl) (by exact rfl) (by exact rfl) (by assumption) (by first | assumption | omega) ?_
        | refine s_ld_row (by exact rfl) (by exact rfl) (by exact .head _) (by assumption) ?_
        | refine c_block ?_
        | refine c_skip ?_
        | refine c_exit ?_
        | refine k_then_exit ?_
        | refine k_blk_eq ?_
        | (refine c_cond_p (by exact rfl) (fun h => ?_) (fun h => ?_) <;> try (exfalso; omega))
        | refine c_cond_t (by exact rfl) ?_
      have hne : lab i ≠ i := by have := hLt i hmet; omega
      have hcn := comps_next (N := N) (met := met) hne
      refine c_round (i + 1, met, out, lab, vr, hr0) [0, 0, 0, 0, 0] (by dsimp only; rw [hcn]; rfl) (by exact ⟨rfl, rfl, rfl, rfl, rfl, trivial⟩) ⟨by omega, hB.next hmet, by dsimp only; rw [hcn]; exact hhr, fun u hu => by have := hLt u hu; dsimp only; omega⟩ (by dsimp only; omega)
  · repeat' first
      | refine k_then ?_
      | refine c_seq ?_
      | refine c_region ?_
      | refine s_nil ?_
      | refine s_move (by exact rfl) (by exact rfl) ?_
      | refine s_assign (by exact rfl) (by exact rfl) ?_
      | refine s_lss (by exact rfl) (by exact rfl) (by exact rfl) ?_
      | refine c_exit ?_
      | refine c_ret ?_
      | refine k_then_exit ?_
      | refine k_blk_eq ?_
      | (refine c_cond_p (by exact rfl) (fun h => ?_) (fun h => ?_) <;> try (exfalso; omega))
    obtain rfl : i = N := by omega
    refine ret1 [1, 1] rfl rfl rfl ⟨met, out, lab, hr0, hB, hhr, rfl⟩
end Go.Proofs.Ytkekpgkacjpjnaa
