/- Package levels: each vertex's level. -/
import Derived.Test.YtkekpgkacjpjnaaNear
namespace Go.Sl
open Go Go.RowKit
def bV (l : List Bool) : List Value := l.map Value.bool
theorem bV_get {l : List Bool} {k : Nat} (h : k < l.length) : (bV l)[k * 1]? = some (.bool (l.getD k false)) := by
  simp [bV, h]
theorem nV_get {l : List Nat} {k : Nat} (h : k < l.length) : (nV l)[k * 1]? = some (.int .i64 ((l.getD k 0 : Nat) : Int)) := by
  simp [nV, h]
theorem bV_set (l : List Bool) (k : Nat) (b : Bool) : (bV l).set (k * 1) (.bool b) = bV (l.set k b) := by simp [bV, List.map_set]
theorem nV_set (l : List Nat) (k x : Nat) : (nV l).set (k * 1) (.int .i64 (x : Int)) = nV (l.set k x) := by simp [nV, List.map_set]
end Go.Sl
namespace Go.Proofs.Ytkekpgkacjpjnaa
open Go.RowKit Go.Sl Fil
set_option maxRecDepth 100000
set_option maxHeartbeats 8000000
set_option linter.unusedVariables false
set_option linter.unusedSimpArgs false
attribute [local irreducible] Code.wp wpList bodyPost wpQuiet Exit.then Exit.inBlock Post wpAnyH wpOp

theorem levOf_ok (n : Int) (v : Value) (es : List E) (w : World) (hs : Shp v es.length) (hr : RO w No v (esV es)) (hR : RightG n es) :
    Calls Try.prog 15 #[.agg #[.int .i64 n, v]] w (Post w No fun r L' => ∃ (out : List Nat) (lab : Nat → Nat) (vo : Value), r = .tuple #[vo, .int .i64 0] ∧ L' = [rowHP vo 3 1 n.toNat (nV out)] ∧ out.length = n.toNat ∧ Lev n.toNat (nearS (tn es)) (fun v => out.getD v 0) lab) := by
  have hR0 := right_iff.2 hR
  have hm : es.length < 4611686018427387904 := by have := hR.many; omega
  have hlo := hR.lo
  have hhi := hR.hi
  have hA := hR.good.adjS
  refine enter0 (vs := [_]) Try.func15 rfl Try.ntmps15 rfl ?_
  repeat' first
    | refine k_then ?_
    | refine c_seq ?_
    | refine c_region ?_
    | refine s_nil ?_
    | refine s_assign (by exact rfl) (by exact rfl) ?_
    | refine s_ldk_box (by exact rfl) (by exact rfl) (by exact .head _) (by exact rfl) (by exact rfl) ?_
    | refine o_box (by exact rfl) (by exact rfl) (fun b => ?_)
  refine s_call (by exact rfl) (by exact rfl) (fun w h => Right_ok n v es w hs (ro_old h hr) hm) ?_
  repeat' first
    | refine k_then ?_
    | refine c_seq ?_
    | refine c_region ?_
    | refine s_nil ?_
    | refine s_neq (by exact rfl) (by exact rfl) (by exact rfl) ?_
    | refine s_ldk_box (by exact rfl) (by exact rfl) (by exact .head _) (by exact rfl) (by exact rfl) ?_
    | refine c_skip ?_
    | (refine c_cond_p (by exact rfl) (fun h => ?_) (fun h => ?_) <;> try (exfalso; omega))
  refine o_call (by exact rfl) (by exact rfl) (fun w h => Near_ok n v es w hs (ro_old h hr) hR) ?_
  rintro vn _ ⟨hs0, hl0, rfl⟩
  refine know_row (v := vn) (.head _) fun hvn _ => ?_
  repeat' first
    | refine k_then ?_
    | refine c_seq ?_
    | refine c_region ?_
    | refine s_nil ?_
    | refine s_assign (by exact rfl) (by exact rfl) ?_
    | refine s_fa (by exact rfl) (by exact rfl) ?_
    | refine s_ld_box (by exact rfl) (by exact rfl) (by exact .tail _ (.tail _ (.head _))) (by exact rfl) ?_
  refine o_make (by exact rfl) (by exact rfl) (by exact rfl) (by omega) (by omega) fun vo hvo => ?_
  repeat' first
    | refine k_then ?_
    | refine c_seq ?_
    | refine c_region ?_
    | refine s_nil ?_
    | refine s_assign (by exact rfl) (by exact rfl) ?_
    | refine s_fa (by exact rfl) (by exact rfl) ?_
    | refine s_ld_box (by exact rfl) (by exact rfl) (by exact .tail _ (.tail _ (.tail _ (.head _)))) (by exact rfl) ?_
  refine o_make (by exact rfl) (by exact rfl) (by exact rfl) (by omega) (by omega) fun vm hvm => ?_
  rw [made1 (z := .int .i64 0) rfl, made1 (z := .bool false) rfl]
  repeat' first
    | refine k_then ?_
    | refine c_seq ?_
    | refine c_region ?_
    | refine s_nil ?_
    | refine s_move (by exact rfl) (by exact rfl) ?_
    | refine s_assign (by exact rfl) (by exact rfl) ?_
    | refine s_fa (by exact rfl) (by exact rfl) ?_
    | refine s_ld_box (by exact rfl) (by exact rfl) (by exact .tail _ (.tail _ (.tail _ (.tail _ (.head _))))) (by exact rfl) ?_
    | refine c_block ?_
  have hAl : ∀ x, (nearS (tn es) x).length ≤ 4194304 := fun x => by
    have h1 := nb_length (tn es) x
    have h2 := hR.many
    simp only [nearS, List.length_mergeSort]
    simp only [tn, List.length_map] at h1
    simp only [tn]
    omega
  generalize hAd : nearS (tn es) = A at *
  generalize hN : n.toNat = N at *
  have hnN : n = (N : Int) := by omega
  subst hnN
  refine c_loop (fun x : Nat × List Bool × List Nat × (Nat → Nat) => x.1 ≤ N ∧ Bfs N A x.1 x.2.1 x.2.2.1 x.2.2.2 [] ∧ ∀ u, x.2.2.1.getD u 0 + unmet x.2.1 ≤ N) (fun x => [(4, vn), (5, vo), (6, vm), (24, .int .i64 (N : Int)), (25, .int .i64 (x.1 : Int))])
    (fun x => [rowHP vm 4 1 N (bV x.2.1), rowHP vo 3 1 N (nV x.2.2.1), rowHP vn 27 1 N hs0, starHP (kids rowN hs0 ((List.range N).map A))]) (fun x => N - x.1) (0, List.replicate N false, List.replicate N 0, fun _ => 0) [0, 0, 0, 0] ⟨Nat.zero_le _, Bfs.init N A, ?_⟩ ?_ ⟨rfl, rfl, rfl, rfl, rfl, trivial⟩ ?_
  · intro u
    have h1 := unmet_le (List.replicate N false)
    simp only [List.length_replicate] at h1
    simp only [List.getD_eq_getElem?_getD, List.getElem?_replicate]
    split <;> simp <;> omega
  · simp only [bV, nV, List.map_replicate]
    rfl
  rintro ⟨i, met, out, lab⟩ ⟨hi, hB, hcap⟩
  dsimp only at hi hB hcap ⊢
  by_cases hlt : i < N
  · have hmi := bV_get (l := met) (k := i) (by rw [hB.lm]; exact hlt)
    cases hmet : met.getD i false
    · rw [hmet] at hmi
      repeat' first
        | refine k_then ?_
        | refine c_seq ?_
        | refine c_region ?_
        | refine s_nil ?_
        | refine s_move (by exact rfl) (by exact rfl) ?_
        | refine s_assign (by exact rfl) (by exact rfl) ?_
        | refine s_lss (by exact rfl) (by exact rfl) (by exact rfl) ?_
        | refine s_idx (by exact rfl) (by exact rfl) (by exact rfl) (by assumption) (by first | assumption | omega) ?_
        | refine s_ld_row (by exact rfl) (by exact rfl) (by exact .head _) (by assumption) ?_
        | refine c_block ?_
        | refine c_skip ?_
        | (refine c_cond_p (by exact rfl) (fun h => ?_) (fun h => ?_) <;> try (exfalso; omega))
        | refine c_cond_f (by exact rfl) ?_
      refine o_st_row (i := 0) (by exact rfl) (by exact rfl) (by exact rfl) rfl (by omega) ?_
      repeat' first
        | refine k_then ?_
        | refine c_seq ?_
        | refine c_region ?_
        | refine s_nil ?_
        | refine s_move (by exact rfl) (by exact rfl) ?_
      rw [bV_set]
      refine o_mk [_] (by exact rfl) (by exact rfl) rfl ?_ ?_ (by simp) fun vl0 hvl0 => ?_
      · simp [Value.cells]
      · simp
      repeat' first
        | refine k_then ?_
        | refine s_nil ?_
        | refine s_assign (by exact rfl) (by exact rfl) ?_
        | refine c_block ?_
      have hBs := hB.start hlt hmet
      have hum := unmet_set (by rw [hB.lm]; exact hlt) hmet
      refine c_loop (fun x : Value × List Nat × List Bool × List Nat × (Nat → Nat) => Bfs N A i x.2.2.1 x.2.2.2.1 x.2.2.2.2 x.2.1 ∧ (∀ u, x.2.2.2.1.getD u 0 + unmet x.2.2.1 ≤ N) ∧ 2 * unmet x.2.2.1 + x.2.1.length ≤ 2 * N + 2 ∧ x.2.2.1.getD i false = true)
        (fun x => [(4, vn), (5, vo), (6, vm), (7, .int .i64 (i : Int)), (8, x.1), (24, .int .i64 (N : Int)), (25, .int .i64 (i : Int))])
        (fun x => [rowHP x.1 3 1 x.2.1.length (nV x.2.1), rowHP vm 4 1 N (bV x.2.2.1), rowHP vo 3 1 N (nV x.2.2.2.1), rowHP vn 27 1 N hs0, starHP (kids rowN hs0 ((List.range N).map A))])
        (fun x => 2 * unmet x.2.2.1 + x.2.1.length) (vl0, [i], met.set i true, out, fun x => if x = i then i else lab x) [0, 0, 0, 0, 0] ⟨hBs, ?_, ?_, hBs.line_met i (by simp)⟩ (by exact rfl) ⟨rfl, rfl, rfl, rfl, rfl, rfl, rfl, trivial⟩ ?_
      · intro u
        have := hcap u
        dsimp only; omega
      · have := hcap 0
        dsimp only [List.length_singleton]; omega
      clear hBs hum hmi hmet hB hcap hvl0
      clear vl0 out lab met
      rintro ⟨vl, line, met, out, lab⟩ ⟨hB, hcap, hM, hfm⟩
      dsimp only at hB hcap hM hfm ⊢
      refine know_row (v := vl) (.head _) fun hvl _ => ?_
      cases line with
      | nil =>
        have hlen : ([] : List Nat).length = 0 := rfl
        repeat' first
          | refine k_then ?_
          | refine c_seq ?_
          | refine c_region ?_
          | refine s_nil ?_
          | refine s_move (by exact rfl) (by exact rfl) ?_
          | refine s_gtr (by exact rfl) (by exact rfl) (by exact rfl) ?_
          | refine s_add (by exact rfl) (by exact rfl) (by exact rfl) (by omega) ?_
          | refine s_len (by exact rfl) (by exact rfl) (by assumption) ?_
          | refine c_exit ?_
          | refine k_then_exit ?_
          | refine k_blk ?_
          | refine k_blk_eq ?_
          | (refine c_cond_p (by exact rfl) (fun h => ?_) (fun h => ?_) <;> try (exfalso; omega))
        refine c_round (i + 1, met, out, lab) [1, 1, 1, 1] (by exact rfl) (by exact ⟨rfl, rfl, rfl, rfl, rfl, trivial⟩) ⟨by omega, hB.next hfm, hcap⟩ (by dsimp only; omega)
      | cons x rest =>
        have hlen : (x :: rest).length = rest.length + 1 := rfl
        have hx := hB.line_lt x (by simp)
        have hAx := hAl x
        have hx0 : (nV (x :: rest))[(0 : Int).toNat * 1]? = some (.int .i64 (x : Int)) := rfl
        obtain ⟨hd, hhd⟩ : ∃ hd, hs0[x * 1]? = some hd := ⟨_, List.getElem?_eq_getElem (by omega)⟩
        have hK : rowHP hd 3 1 (A x).length (nV (A x)) ∈ kids rowN hs0 ((List.range N).map A) := kids_mem (f := rowN) (k := x) (by simpa using hhd) (by simp [hx])
        refine know_kid (Ks := kids rowN hs0 ((List.range N).map A)) (.tail _ (.tail _ (.tail _ (.tail _ (.head _))))) hK fun hhs _ => ?_
        repeat' first
          | refine k_then ?_
          | refine c_seq ?_
          | refine c_region ?_
          | refine s_nil ?_
          | refine s_move (by exact rfl) (by exact rfl) ?_
          | refine s_assign (by exact rfl) (by exact rfl) ?_
          | refine s_gtr (by exact rfl) (by exact rfl) (by exact rfl) ?_
          | refine s_len (by exact rfl) (by exact rfl) (by assumption) ?_
          | refine s_idx (by exact rfl) (by exact rfl) (by exact rfl) (by assumption) (by first | assumption | omega) ?_
          | refine s_idxi (by exact rfl) (by exact rfl) (by exact rfl) (by assumption) (by first | assumption | omega) ?_
          | refine s_ld_row (by exact rfl) (by exact rfl) (by first | exact .head _ | exact .tail _ (.tail _ (.tail _ (.head _)))) (by assumption) ?_
          | refine c_block ?_
          | refine c_skip ?_
          | (refine c_cond_p (by exact rfl) (fun h => ?_) (fun h => ?_) <;> try (exfalso; omega))
        refine c_loop (fun y : Nat × Value × List Nat × List Bool × List Nat × (Nat → Nat) => y.1 ≤ (A x).length ∧ Bfs N A i y.2.2.2.1 y.2.2.2.2.1 y.2.2.2.2.2 (x :: y.2.2.1) ∧ Seen A i y.2.2.2.1 y.2.2.2.2.1 y.2.2.2.2.2 x y.1 ∧ (∀ u, y.2.2.2.2.1.getD u 0 + unmet y.2.2.2.1 ≤ N) ∧ 2 * unmet y.2.2.2.1 + (x :: y.2.2.1).length ≤ 2 * unmet met + (x :: rest).length ∧ y.2.2.2.1.getD i false = true)
          (fun y => [(4, vn), (5, vo), (6, vm), (7, .int .i64 (i : Int)), (8, y.2.1), (9, .int .i64 (x : Int)), (24, .int .i64 (N : Int)), (25, .int .i64 (i : Int)), (48, hd), (49, .int .i64 ((A x).length : Int)), (50, .int .i64 (y.1 : Int))])
          (fun y => [rowHP y.2.1 3 1 (x :: y.2.2.1).length (nV (x :: y.2.2.1)), rowHP vm 4 1 N (bV y.2.2.2.1), rowHP vo 3 1 N (nV y.2.2.2.2.1), rowHP vn 27 1 N hs0, starHP (kids rowN hs0 ((List.range N).map A))])
          (fun y => (A x).length - y.1) (0, vl, rest, met, out, lab) [0, 0, 0, 0, 0] ⟨Nat.zero_le _, hB, fun u hu => by simp at hu, hcap, Nat.le_refl _, hfm⟩ (by exact rfl) ⟨rfl, rfl, rfl, rfl, rfl, rfl, rfl, rfl, rfl, rfl, rfl, trivial⟩ ?_
        clear hB hcap hx0 hvl hfm
        rintro ⟨j, vl, rest2, met2, out2, lab2⟩ ⟨hj, hB, hS, hcap, hM2, hfm⟩
        dsimp only at hj hB hS hcap hM2 hfm ⊢
        refine know_row (v := vl) (.head _) fun hvl _ => ?_
        by_cases hjl : j < (A x).length
        · obtain ⟨u, hu⟩ : ∃ u, (A x)[j]? = some u := ⟨_, List.getElem?_eq_getElem hjl⟩
          have hun := hA.lt x hx u (List.mem_of_getElem? hu)
          have hju : (nV (A x))[j * 1]? = some (.int .i64 (u : Int)) := by simp [nV, hu]
          have hmu := bV_get (l := met2) (k := u) (by rw [hB.lm]; exact hun)
          cases hmet : met2.getD u false
          · rw [hmet] at hmu
            have hox := nV_get (l := out2) (k := x) (by rw [hB.lo]; exact hx)
            have hcx := hcap x
            have hum := unmet_set (by rw [hB.lm]; exact hun) hmet
            obtain ⟨hB2, hS2⟩ := hB.new hA hS hu hmet
            repeat' first
              | refine k_then ?_
              | refine c_seq ?_
              | refine c_region ?_
              | refine s_nil ?_
              | refine s_move (by exact rfl) (by exact rfl) ?_
              | refine s_assign (by exact rfl) (by exact rfl) ?_
              | refine s_lss (by exact rfl) (by exact rfl) (by exact rfl) ?_
              | refine s_add (by exact rfl) (by exact rfl) (by exact rfl) (by omega) ?_
              | refine s_not (by exact rfl) (by exact rfl) ?_
              | refine s_idx (by exact rfl) (by exact rfl) (by exact rfl) (by assumption) (by first | assumption | omega) ?_
              | refine s_ld_row (by exact rfl) (by exact rfl) (by first | exact .tail _ (.head _) | exact .tail _ (.tail _ (.head _))) (by assumption) ?_
              | refine s_ld_kid (by exact rfl) (by exact rfl) (by assumption) (by exact .tail _ (.tail _ (.tail _ (.tail _ (.head _))))) (by assumption) ?_
              | refine c_block ?_
              | refine c_skip ?_
              | (refine c_cond_p (by exact rfl) (fun h => ?_) (fun h => ?_) <;> try (exfalso; omega))
              | refine c_cond_t (by exact rfl) ?_
            refine o_st_row (i := 1) (by exact rfl) (by exact rfl) (by exact rfl) rfl (by omega) ?_
            repeat' first
              | refine s_idx (by exact rfl) (by exact rfl) (by exact rfl) (by assumption) (by first | assumption | omega) ?_
            refine o_st_row (i := 2) (by exact rfl) (by exact rfl) (by exact rfl) rfl (by omega) ?_
            repeat' first
              | refine k_then ?_
              | refine c_region ?_
              | refine s_nil ?_
              | refine s_move (by exact rfl) (by exact rfl) ?_
            rw [bV_set, show ((out2.getD x 0 : Nat) : Int) + 1 = ((out2.getD x 0 + 1 : Nat) : Int) from by omega, nV_set]
            refine o_mk [_] (by exact rfl) (by exact rfl) rfl ?_ ?_ (by simp) fun vt hvt => ?_
            · simp [Value.cells]
            · simp
            skip
            refine o_append_row (i := 1) (by exact rfl) (by exact rfl) (by exact rfl) (by exact rfl) (by exact .head _) (by exact rfl) (by simp [Value.cells, Value.oneCell']) ?_ fun vl2 hvl2 => ?_
            · simp only [List.length_cons] at hM2 hM ⊢
              omega
            repeat' first
              | refine k_then ?_
              | refine c_region ?_
              | refine s_nil ?_
              | refine s_move (by exact rfl) (by exact rfl) ?_
              | refine s_assign (by exact rfl) (by exact rfl) ?_
              | refine s_add (by exact rfl) (by exact rfl) (by exact rfl) (by omega) ?_
              | refine k_blk ?_
            refine c_round (j + 1, vl2, rest2 ++ [u], met2.set u true, out2.set u (out2.getD x 0 + 1), fun z => if z = u then i else lab2 z) [1, 1, 1, 1, 1] ?_ (by exact ⟨rfl, rfl, rfl, rfl, rfl, rfl, rfl, rfl, rfl, rfl, rfl, trivial⟩) ⟨by omega, hB2, hS2, ?_, ?_, ?_⟩ (by dsimp only; omega)
            · show pick [_, _, _, _, _, _] [1, 1, 1, 1, 1] = some [_, _, _, _, _]
              have e1 : rowHP vl2 3 1 ((x :: rest2).length + 1) (nV (x :: rest2) ++ [Value.int .i64 (u : Int)]) = rowHP vl2 3 1 (x :: (rest2 ++ [u])).length (nV (x :: (rest2 ++ [u]))) := by simp [nV]
              rw [← e1]
              rfl
            · intro z
              dsimp only
              rw [getD_set]
              have := hcap z
              split <;> omega
            · simp only [List.length_cons, List.length_append, List.length_nil] at hM2 ⊢
              omega
            · dsimp only
              rw [getD_set]
              split
              · rfl
              · exact hfm
          · rw [hmet] at hmu
            repeat' first
              | refine k_then ?_
              | refine c_seq ?_
              | refine c_region ?_
              | refine s_nil ?_
              | refine s_move (by exact rfl) (by exact rfl) ?_
              | refine s_assign (by exact rfl) (by exact rfl) ?_
              | refine s_lss (by exact rfl) (by exact rfl) (by exact rfl) ?_
              | refine s_add (by exact rfl) (by exact rfl) (by exact rfl) (by omega) ?_
              | refine s_not (by exact rfl) (by exact rfl) ?_
              | refine s_idx (by exact rfl) (by exact rfl) (by exact rfl) (by assumption) (by first | assumption | omega) ?_
              | refine s_ld_row (by exact rfl) (by exact rfl) (by exact .tail _ (.head _)) (by assumption) ?_
              | refine s_ld_kid (by exact rfl) (by exact rfl) (by assumption) (by exact .tail _ (.tail _ (.tail _ (.tail _ (.head _))))) (by assumption) ?_
              | refine c_block ?_
              | refine c_skip ?_
              | refine k_blk ?_
              | (refine c_cond_p (by exact rfl) (fun h => ?_) (fun h => ?_) <;> try (exfalso; omega))
              | refine c_cond_f (by exact rfl) ?_
            refine c_round (j + 1, vl, rest2, met2, out2, lab2) [0, 0, 0, 0, 0] (by exact rfl) (by exact ⟨rfl, rfl, rfl, rfl, rfl, rfl, rfl, rfl, rfl, rfl, rfl, trivial⟩) ⟨by omega, hB, hB.old hA hS hu hmet, hcap, hM2, hfm⟩ (by dsimp only; omega)
        · obtain rfl : j = (A x).length := by omega
          have hlen2 : (x :: rest2).length = rest2.length + 1 := rfl
          repeat' first
            | refine k_then ?_
            | refine c_seq ?_
            | refine c_region ?_
            | refine s_nil ?_
            | refine s_move (by exact rfl) (by exact rfl) ?_
            | refine s_assign (by exact rfl) (by exact rfl) ?_
            | refine s_lss (by exact rfl) (by exact rfl) (by exact rfl) ?_
            | refine s_cut_lo (by exact rfl) (by exact rfl) (by exact rfl) (by assumption) (by omega) ?_
            | refine c_exit ?_
            | refine k_then_exit ?_
            | refine k_blk ?_
            | refine k_blk_eq ?_
            | (refine c_cond_p (by exact rfl) (fun h => ?_) (fun h => ?_) <;> try (exfalso; omega))
          refine c_cutrow (v := vl) 0 1 (x :: rest2).length (by exact rfl) (by omega) (Nat.le_refl _) ?_
          refine c_round (cutV vl 1 1 (x :: rest2).length, rest2, met2, out2, lab2) [0, 0, 0, 0, 0] ?_ (by exact ⟨rfl, rfl, rfl, rfl, rfl, rfl, rfl, trivial⟩) ⟨hB.pop hS, hcap, ?_, hfm⟩ ?_
          · have e1 : rest2.length + 1 - 1 = rest2.length := by omega
            have e2 : ((nV (x :: rest2)).drop (1 * 1)).take (((x :: rest2).length - 1) * 1) = nV rest2 := by
              simp only [nV, List.map_cons, Nat.one_mul, List.drop_succ_cons, List.drop_zero]
              exact List.take_of_length_le (by simp)
            rw [e2, hlen2, e1]
            rfl
          · dsimp only; omega
          · dsimp only; omega
    · rw [hmet] at hmi
      repeat' first
        | refine k_then ?_
        | refine c_seq ?_
        | refine c_region ?_
        | refine s_nil ?_
        | refine s_move (by exact rfl) (by exact rfl) ?_
        | refine s_assign (by exact rfl) (by exact rfl) ?_
        | refine s_lss (by exact rfl) (by exact rfl) (by exact rfl) ?_
        | refine s_add (by exact rfl) (by exact rfl) (by exact rfl) (by omega) ?_
        | refine s_idx (by exact rfl) (by exact rfl) (by exact rfl) (by assumption) (by first | assumption | omega) ?_
        | refine s_ld_row (by exact rfl) (by exact rfl) (by exact .head _) (by assumption) ?_
        | refine c_block ?_
        | refine c_skip ?_
        | refine c_exit ?_
        | refine k_then_exit ?_
        | refine k_blk_eq ?_
        | (refine c_cond_p (by exact rfl) (fun h => ?_) (fun h => ?_) <;> try (exfalso; omega))
        | refine c_cond_t (by exact rfl) ?_
      refine c_round (i + 1, met, out, lab) [0, 0, 0, 0] (by exact rfl) (by exact ⟨rfl, rfl, rfl, rfl, rfl, trivial⟩) ⟨by omega, hB.next hmet, hcap⟩ (by dsimp only; omega)
  · repeat' first
      | refine k_then ?_
      | refine c_seq ?_
      | refine c_region ?_
      | refine s_nil ?_
      | refine s_move (by exact rfl) (by exact rfl) ?_
      | refine s_assign (by exact rfl) (by exact rfl) ?_
      | refine s_lss (by exact rfl) (by exact rfl) (by exact rfl) ?_
      | refine c_exit ?_
      | refine c_ret ?_
      | refine k_then_exit ?_
      | refine k_blk_eq ?_
      | (refine c_cond_p (by exact rfl) (fun h => ?_) (fun h => ?_) <;> try (exfalso; omega))
    obtain rfl : i = N := by omega
    refine ret2 [1] rfl rfl rfl rfl ⟨out, lab, vo, rfl, rfl, hB.lo, hB.lev⟩
end Go.Proofs.Ytkekpgkacjpjnaa
