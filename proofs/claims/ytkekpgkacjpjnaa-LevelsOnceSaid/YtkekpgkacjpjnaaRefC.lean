/- The document's answer for parts: what hangs together. -/
import Derived.Test.YtkekpgkacjpjnaaLab
import Derived.Test.YtkekpgkacjpjnaaPPieces
namespace Go.Proofs.Ytkekpgkacjpjnaa
open Go.RowKit Go.Sl Fil
set_option maxRecDepth 100000
set_option maxHeartbeats 8000000
set_option linter.unusedVariables false
set_option linter.unusedSimpArgs false
attribute [local irreducible] Code.wp wpList bodyPost wpQuiet Exit.then Exit.inBlock Post wpAnyH wpOp

theorem refComps_ok (n : Int) (v : Value) (es : List E) (o lab : Nat → Nat) (w : World) (hs : Shp v es.length) (hr : RO w No v (esV es)) (hR : RightG n es) (hLev : Lev n.toNat (nb (tn es)) o lab) :
    Calls Try.prog 46 #[.agg #[.int .i64 n, v]] w (Post w No fun r L' => ∃ hr : List Value, hr.length = (compsS n.toNat lab).length ∧ L' = [rowHP r 27 1 (compsS n.toNat lab).length hr, starHP (kids rowN hr (compsS n.toNat lab))]) := by
  have hlo := hR.lo
  have hhi := hR.hi
  refine enter0 (vs := [_]) Try.func46 rfl Try.ntmps46 rfl ?_
  repeat' first
    | refine k_then ?_
    | refine c_seq ?_
    | refine c_region ?_
    | refine s_nil ?_
    | refine s_assign (by exact rfl) (by exact rfl) ?_
    | refine s_ldk_box (by exact rfl) (by exact rfl) (by exact .head _) (by exact rfl) (by exact rfl) ?_
    | refine o_box (by exact rfl) (by exact rfl) (fun b => ?_)
  refine o_call (by exact rfl) (by exact rfl) (fun w h => Labels_ok n v es w hs (ro_old h hr) hR) ?_
  rintro vl _ rfl
  refine know_row (v := vl) (.head _) fun hvl _ => ?_
  rw [ref_labels hR.good hLev]
  repeat' first
    | refine k_then ?_
    | refine c_seq ?_
    | refine c_region ?_
    | refine s_nil ?_
    | refine s_assign (by exact rfl) (by exact rfl) ?_
    | refine c_block ?_
  have hle := hLev.le
  generalize hN : n.toNat = N at *
  have hnN : n = (N : Int) := by omega
  subst hnN
  refine c_nil 27 1 ?_
  refine c_star0 ?_
  refine c_loop (fun x : Nat × Value × List Value => x.1 ≤ N ∧ x.2.2.length = (compsI N x.1 lab).length) (fun x => [(1, .pointer (some ⟨b, 0, none⟩)), (3, vl), (4, x.2.1), (5, .int .i64 (x.1 : Int))])
    (fun x => [rowHP x.2.1 27 1 (compsI N x.1 lab).length x.2.2, starHP (kids rowN x.2.2 (compsI N x.1 lab)), rowHP vl 3 1 N (nV ((List.range N).map lab)), boxHP b 24 [.int .i64 (N : Int), v]]) (fun x => N - x.1) (0, .slice none 0 0, []) [1, 0, 0, 0] ⟨Nat.zero_le _, rfl⟩ (by exact rfl) ⟨rfl, rfl, rfl, rfl, trivial⟩ ?_
  rintro ⟨i, vo, ho⟩ ⟨hi, hho⟩
  dsimp only at hi hho ⊢
  by_cases hil : i < N
  · have hli := nV_get (l := (List.range N).map lab) (k := i) (by simpa using hil)
    rw [show ((List.range N).map lab).getD i 0 = lab i from by simp [hil]] at hli
    by_cases hlab : lab i = i
    · have hadd := compsI_add (N := N) hlab
      have hcl := compsI_length N i lab
      generalize hcs : compsI N i lab = cs at *
      repeat' first
        | refine k_then ?_
        | refine c_seq ?_
        | refine c_region ?_
        | refine s_nil ?_
        | refine s_move (by exact rfl) (by exact rfl) ?_
        | refine s_assign (by exact rfl) (by exact rfl) ?_
        | refine s_fa (by exact rfl) (by exact rfl) ?_
        | refine s_ld_box (by exact rfl) (by exact rfl) (by exact .tail _ (.tail _ (.tail _ (.head _)))) (by exact rfl) ?_
        | refine s_lss (by exact rfl) (by exact rfl) (by exact rfl) ?_
        | refine s_neq (by exact rfl) (by exact rfl) (by exact rfl) ?_
        | refine s_idx (by exact rfl) (by exact rfl) (by exact rfl) (by assumption) (by first | assumption | omega) ?_
        | refine s_ld_row (by exact rfl) (by exact rfl) (by exact .tail _ (.tail _ (.head _))) (by assumption) ?_
        | refine c_block ?_
        | refine c_skip ?_
        | (refine c_cond_p (by exact rfl) (fun h => ?_) (fun h => ?_) <;> try (exfalso; omega))
      refine c_nil 3 1 ?_
      refine c_loop (fun x : Nat × Value => i ≤ x.1 ∧ x.1 ≤ N) (fun x => [(1, .pointer (some ⟨b, 0, none⟩)), (3, vl), (4, vo), (5, .int .i64 (i : Int)), (6, x.2), (7, .int .i64 (x.1 : Int))])
        (fun x => [rowHP x.2 3 1 ((List.range x.1).filter fun u => lab u == i).length (nV ((List.range x.1).filter fun u => lab u == i)), rowHP vo 27 1 cs.length ho, starHP (kids rowN ho cs), rowHP vl 3 1 N (nV ((List.range N).map lab)), boxHP b 24 [.int .i64 (N : Int), v]]) (fun x => N - x.1) (i, .slice none 0 0) [0, 0, 0, 0, 0] ⟨Nat.le_refl _, hi⟩ (by dsimp only; rw [row_low fun u hu => hle u (by omega)]; rfl) ⟨rfl, rfl, rfl, rfl, rfl, rfl, trivial⟩ ?_
      rintro ⟨u, vc⟩ ⟨hiu, hu⟩
      dsimp only at hiu hu ⊢
      by_cases hul : u < N
      · have hlu := nV_get (l := (List.range N).map lab) (k := u) (by simpa using hul)
        rw [show ((List.range N).map lab).getD u 0 = lab u from by simp [hul]] at hlu
        have hrl := row_length u i lab
        by_cases hlabu : lab u = i
        · have hra := row_add (u := u) hlabu
          generalize hrow : (List.range u).filter (fun u => lab u == i) = row at *
          repeat' first
            | refine k_then ?_
            | refine c_seq ?_
            | refine c_region ?_
            | refine s_nil ?_
            | refine s_move (by exact rfl) (by exact rfl) ?_
            | refine s_fa (by exact rfl) (by exact rfl) ?_
            | refine s_ld_box (by exact rfl) (by exact rfl) (by exact .tail _ (.tail _ (.tail _ (.tail _ (.head _))))) (by exact rfl) ?_
            | refine s_lss (by exact rfl) (by exact rfl) (by exact rfl) ?_
            | refine s_eql (by exact rfl) (by exact rfl) (by exact rfl) ?_
            | refine s_idx (by exact rfl) (by exact rfl) (by exact rfl) (by assumption) (by first | assumption | omega) ?_
            | refine s_ld_row (by exact rfl) (by exact rfl) (by exact .tail _ (.tail _ (.tail _ (.head _)))) (by assumption) ?_
            | refine c_block ?_
            | refine c_skip ?_
            | (refine c_cond_p (by exact rfl) (fun h => ?_) (fun h => ?_) <;> try (exfalso; omega))
          refine o_mk [.int .i64 (u : Int)] (by exact rfl) (by exact rfl) rfl ?_ ?_ (by simp) fun vt hvt => ?_
          · simp [Value.cells]
          · simp
          skip
          refine o_append_row (i := 1) (by exact rfl) (by exact rfl) (by exact rfl) (by exact rfl) (by exact .head _) (by exact rfl) (by simp [Value.cells, Value.oneCell']) ?_ fun vd hvd => ?_
          · omega
          repeat' first
            | refine k_then ?_
            | refine c_region ?_
            | refine s_nil ?_
            | refine s_move (by exact rfl) (by exact rfl) ?_
            | refine s_assign (by exact rfl) (by exact rfl) ?_
            | refine s_add (by exact rfl) (by exact rfl) (by exact rfl) (by omega) ?_
            | refine k_blk ?_
          refine c_round (u + 1, vd) [1, 1, 1, 1, 1] ?_ (by exact ⟨rfl, rfl, rfl, rfl, rfl, rfl, trivial⟩) (by dsimp only; omega) (by dsimp only; omega)
          dsimp only
          rw [hra]
          have e1 : rowHP vd 3 1 (row.length + 1) (nV row ++ [Value.int .i64 (u : Int)]) = rowHP vd 3 1 (row ++ [u]).length (nV (row ++ [u])) := by simp [nV]
          rw [← e1]
          rfl
        · have hrn := row_next (u := u) hlabu
          repeat' first
            | refine k_then ?_
            | refine c_seq ?_
            | refine c_region ?_
            | refine s_nil ?_
            | refine s_move (by exact rfl) (by exact rfl) ?_
            | refine s_assign (by exact rfl) (by exact rfl) ?_
            | refine s_fa (by exact rfl) (by exact rfl) ?_
            | refine s_ld_box (by exact rfl) (by exact rfl) (by exact .tail _ (.tail _ (.tail _ (.tail _ (.head _))))) (by exact rfl) ?_
            | refine s_lss (by exact rfl) (by exact rfl) (by exact rfl) ?_
            | refine s_eql (by exact rfl) (by exact rfl) (by exact rfl) ?_
            | refine s_add (by exact rfl) (by exact rfl) (by exact rfl) (by omega) ?_
            | refine s_idx (by exact rfl) (by exact rfl) (by exact rfl) (by assumption) (by first | assumption | omega) ?_
            | refine s_ld_row (by exact rfl) (by exact rfl) (by exact .tail _ (.tail _ (.tail _ (.head _)))) (by assumption) ?_
            | refine c_block ?_
            | refine c_skip ?_
            | refine k_blk ?_
            | (refine c_cond_p (by exact rfl) (fun h => ?_) (fun h => ?_) <;> try (exfalso; omega))
          refine c_round (u + 1, vc) [0, 0, 0, 0, 0] (by dsimp only; rw [hrn]; rfl) (by exact ⟨rfl, rfl, rfl, rfl, rfl, rfl, trivial⟩) (by dsimp only; omega) (by dsimp only; omega)
      · repeat' first
          | refine k_then ?_
          | refine c_seq ?_
          | refine c_region ?_
          | refine s_nil ?_
          | refine s_move (by exact rfl) (by exact rfl) ?_
          | refine s_fa (by exact rfl) (by exact rfl) ?_
          | refine s_ld_box (by exact rfl) (by exact rfl) (by exact .tail _ (.tail _ (.tail _ (.tail _ (.head _))))) (by exact rfl) ?_
          | refine s_lss (by exact rfl) (by exact rfl) (by exact rfl) ?_
          | refine c_exit ?_
          | refine k_then_exit ?_
          | refine k_blk_eq ?_
          | (refine c_cond_p (by exact rfl) (fun h => ?_) (fun h => ?_) <;> try (exfalso; omega))
        obtain rfl : u = N := by omega
        refine know_row (v := vc) (.head _) fun hvc _ => ?_
        refine o_mk [vc] (by exact rfl) (by exact rfl) rfl ?_ ?_ (by simp) fun vt hvt => ?_
        · intro u hu
          obtain rfl : u = vc := by simpa using hu
          rw [← Array.length_toList, one_cells hvc.one]; rfl
        · simp
        rw [show ([vc].flatMap fun u => u.cells.toList) = [vc] from by simp [one_cells hvc.one]]
        skip
        refine o_append_row (i := 2) (by exact rfl) (by exact rfl) (by exact rfl) (by exact rfl) (by exact .head _) (by exact rfl) (by simp [hvc.one]) ?_ fun vo2 hvo2 => ?_
        · omega
        repeat' first
          | refine k_then ?_
          | refine c_region ?_
          | refine s_nil ?_
          | refine s_move (by exact rfl) (by exact rfl) ?_
          | refine s_assign (by exact rfl) (by exact rfl) ?_
          | refine s_add (by exact rfl) (by exact rfl) (by exact rfl) (by omega) ?_
          | refine k_blk ?_
        have e1 : rowHP vc 3 1 ((List.range u).filter fun x => lab x == i).length (nV ((List.range u).filter fun x => lab x == i)) = rowN vc ((List.range u).filter fun x => lab x == i) := rfl
        refine c_pick [1, 1, 1, 1, 1] (by exact rfl) ?_
        rw [e1]
        refine c_pushk 1 (by exact rfl) ?_
        refine c_round (i + 1, vo2, ho ++ [vc]) [0, 0, 0, 0] ?_ (by exact ⟨rfl, rfl, rfl, rfl, trivial⟩) ⟨by dsimp only; omega, by dsimp only; rw [hadd, List.length_append, List.length_append, hho]; rfl⟩ (by dsimp only; omega)
        dsimp only
        rw [hadd, kids_append hho, List.length_append]
        rfl
    · have hnx := compsI_next (N := N) hlab
      repeat' first
        | refine k_then ?_
        | refine c_seq ?_
        | refine c_region ?_
        | refine s_nil ?_
        | refine s_move (by exact rfl) (by exact rfl) ?_
        | refine s_assign (by exact rfl) (by exact rfl) ?_
        | refine s_fa (by exact rfl) (by exact rfl) ?_
        | refine s_ld_box (by exact rfl) (by exact rfl) (by exact .tail _ (.tail _ (.tail _ (.head _)))) (by exact rfl) ?_
        | refine s_lss (by exact rfl) (by exact rfl) (by exact rfl) ?_
        | refine s_neq (by exact rfl) (by exact rfl) (by exact rfl) ?_
        | refine s_add (by exact rfl) (by exact rfl) (by exact rfl) (by omega) ?_
        | refine s_idx (by exact rfl) (by exact rfl) (by exact rfl) (by assumption) (by first | assumption | omega) ?_
        | refine s_ld_row (by exact rfl) (by exact rfl) (by exact .tail _ (.tail _ (.head _))) (by assumption) ?_
        | refine c_block ?_
        | refine c_skip ?_
        | refine c_exit ?_
        | refine k_then_exit ?_
        | refine k_blk_eq ?_
        | (refine c_cond_p (by exact rfl) (fun h => ?_) (fun h => ?_) <;> try (exfalso; omega))
      refine c_round (i + 1, vo, ho) [0, 0, 0, 0] (by dsimp only; rw [hnx]; rfl) (by exact ⟨rfl, rfl, rfl, rfl, trivial⟩) ⟨by omega, by dsimp only; rw [hnx]; exact hho⟩ (by dsimp only; omega)
  · repeat' first
      | refine k_then ?_
      | refine c_seq ?_
      | refine c_region ?_
      | refine s_nil ?_
      | refine s_move (by exact rfl) (by exact rfl) ?_
      | refine s_assign (by exact rfl) (by exact rfl) ?_
      | refine s_fa (by exact rfl) (by exact rfl) ?_
      | refine s_ld_box (by exact rfl) (by exact rfl) (by exact .tail _ (.tail _ (.tail _ (.head _)))) (by exact rfl) ?_
      | refine s_lss (by exact rfl) (by exact rfl) (by exact rfl) ?_
      | refine c_exit ?_
      | refine c_ret ?_
      | refine k_then_exit ?_
      | refine k_blk_eq ?_
      | (refine c_cond_p (by exact rfl) (fun h => ?_) (fun h => ?_) <;> try (exfalso; omega))
    obtain rfl : i = N := by omega
    refine ret1 [0, 0] rfl rfl rfl ⟨ho, hho, rfl⟩
end Go.Proofs.Ytkekpgkacjpjnaa
