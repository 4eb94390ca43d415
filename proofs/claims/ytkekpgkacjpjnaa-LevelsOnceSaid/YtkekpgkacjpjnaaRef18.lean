/- The document's answer for levels: each vertex's level. -/
import Derived.Test.YtkekpgkacjpjnaaLab
import Derived.Test.YtkekpgkacjpjnaaSlPhase
namespace Go.Proofs.Ytkekpgkacjpjnaa
open Go.RowKit Go.Sl Fil
set_option maxRecDepth 100000
set_option maxHeartbeats 8000000
set_option linter.unusedVariables false
set_option linter.unusedSimpArgs false
attribute [local irreducible] Code.wp wpList bodyPost wpQuiet Exit.then Exit.inBlock Post wpAnyH wpOp

theorem refOf_ok (n : Int) (v : Value) (es : List E) (o lab : Nat → Nat) (w : World) (hs : Shp v es.length) (hr : RO w No v (esV es)) (hR : RightG n es) (hLev : Lev n.toNat (nb (tn es)) o lab) :
    Calls Try.prog 18 #[.agg #[.int .i64 n, v]] w (Post w No fun r L' => L' = [rowHP r 3 1 n.toNat (nV ((List.range n.toNat).map o))]) := by
  have hm : es.length < 4611686018427387904 := by have := hR.many; omega
  have hlo := hR.lo
  have hhi := hR.hi
  refine enter0 (vs := [_]) Try.func18 rfl Try.ntmps18 rfl ?_
  repeat' first
    | refine k_then ?_
    | refine c_seq ?_
    | refine c_region ?_
    | refine s_nil ?_
    | refine s_assign (by exact rfl) (by exact rfl) ?_
    | refine s_fa (by exact rfl) (by exact rfl) ?_
    | refine s_ld_box (by exact rfl) (by exact rfl) (by exact .head _) (by exact rfl) ?_
    | refine o_box (by exact rfl) (by exact rfl) (fun b => ?_)
  refine o_make (by exact rfl) (by exact rfl) (by exact rfl) (by omega) (by omega) fun vl hvl => ?_
  rw [made1 (z := .int .i64 0) rfl]
  repeat' first
    | refine k_then ?_
    | refine c_seq ?_
    | refine c_region ?_
    | refine s_nil ?_
    | refine s_assign (by exact rfl) (by exact rfl) ?_
    | refine s_ldk_box (by exact rfl) (by exact rfl) (by exact .tail _ (.head _)) (by exact rfl) (by exact rfl) ?_
  refine o_call (by exact rfl) (by exact rfl) (fun w h => Labels_ok n v es w hs (ro_old h hr) hR) ?_
  rintro vb _ rfl
  refine know_row (v := vb) (.head _) fun hvb _ => ?_
  rw [ref_labels hR.good hLev]
  repeat' first
    | refine k_then ?_
    | refine c_seq ?_
    | refine c_region ?_
    | refine s_nil ?_
    | refine s_assign (by exact rfl) (by exact rfl) ?_
    | refine c_block ?_
  generalize hN : n.toNat = N at *
  have hnN : n = (N : Int) := by omega
  subst hnN
  let g : Nat → Nat := fun v => if lab v ≠ v then N else 0
  refine c_loop (fun i : Nat => i ≤ N) (fun i => [(1, .pointer (some ⟨b, 0, none⟩)), (3, vl), (4, vb), (5, .int .i64 (i : Int))]) (fun i => [rowHP vl 3 1 N (nV (fillL g 0 N i)), rowHP vb 3 1 N (nV ((List.range N).map lab)), boxHP b 24 [.int .i64 (N : Int), v]]) (fun i => N - i) 0 [1, 0, 0] (Nat.zero_le _) (by rw [fill_zero]; simp only [nV, List.map_replicate]; rfl) ⟨rfl, rfl, rfl, rfl, trivial⟩ ?_
  intro i hi
  by_cases hil : i < N
  · have hli := nV_get (l := (List.range N).map lab) (k := i) (by simpa using hil)
    rw [show ((List.range N).map lab).getD i 0 = lab i from by simp [hil]] at hli
    by_cases hlab : lab i = i
    · have hf : fillL g 0 N (i + 1) = fillL g 0 N i := by
        rw [← fill_set g 0 hil]
        have hg : g i = 0 := by simp [g, hlab]
        rw [hg]
        apply List.ext_getElem?
        intro k
        rw [List.getElem?_set]
        split
        · rename_i e; subst e; simp [fillL, hil]
        · rfl
      repeat' first
        | refine k_then ?_
        | refine c_seq ?_
        | refine c_region ?_
        | refine s_nil ?_
        | refine s_move (by exact rfl) (by exact rfl) ?_
        | refine s_assign (by exact rfl) (by exact rfl) ?_
        | refine s_fa (by exact rfl) (by exact rfl) ?_
        | refine s_ld_box (by exact rfl) (by exact rfl) (by exact .tail _ (.tail _ (.head _))) (by exact rfl) ?_
        | refine s_lss (by exact rfl) (by exact rfl) (by exact rfl) ?_
        | refine s_neq (by exact rfl) (by exact rfl) (by exact rfl) ?_
        | refine s_add (by exact rfl) (by exact rfl) (by exact rfl) (by omega) ?_
        | refine s_idx (by exact rfl) (by exact rfl) (by exact rfl) (by assumption) (by first | assumption | omega) ?_
        | refine s_ld_row (by exact rfl) (by exact rfl) (by exact .tail _ (.head _)) (by assumption) ?_
        | refine c_block ?_
        | refine c_skip ?_
        | refine k_blk ?_
        | (refine c_cond_p (by exact rfl) (fun h => ?_) (fun h => ?_) <;> try (exfalso; omega))
      refine c_round (i + 1) [0, 0, 0] (by rw [hf]; rfl) (by exact ⟨rfl, rfl, rfl, rfl, trivial⟩) (by omega) (by omega)
    · have hg : g i = N := by simp [g, hlab]
      repeat' first
        | refine k_then ?_
        | refine c_seq ?_
        | refine c_region ?_
        | refine s_nil ?_
        | refine s_move (by exact rfl) (by exact rfl) ?_
        | refine s_fa (by exact rfl) (by exact rfl) ?_
        | refine s_ld_box (by exact rfl) (by exact rfl) (by exact .tail _ (.tail _ (.head _))) (by exact rfl) ?_
        | refine s_lss (by exact rfl) (by exact rfl) (by exact rfl) ?_
        | refine s_neq (by exact rfl) (by exact rfl) (by exact rfl) ?_
        | refine s_idx (by exact rfl) (by exact rfl) (by exact rfl) (by assumption) (by first | assumption | omega) ?_
        | refine s_ld_row (by exact rfl) (by exact rfl) (by exact .tail _ (.head _)) (by assumption) ?_
        | refine c_block ?_
        | refine c_skip ?_
        | (refine c_cond_p (by exact rfl) (fun h => ?_) (fun h => ?_) <;> try (exfalso; omega))
      refine o_st_row (i := 0) (by exact rfl) (by exact rfl) (by exact rfl) rfl (by omega) ?_
      repeat' first
        | refine k_then ?_
        | refine c_region ?_
        | refine s_nil ?_
        | refine s_move (by exact rfl) (by exact rfl) ?_
        | refine s_assign (by exact rfl) (by exact rfl) ?_
        | refine s_add (by exact rfl) (by exact rfl) (by exact rfl) (by omega) ?_
        | refine k_blk ?_
      refine c_round (i + 1) [0, 0, 0] (by rw [nV_set, ← fill_set g 0 hil, hg]; rfl) (by exact ⟨rfl, rfl, rfl, rfl, trivial⟩) (by omega) (by omega)
  · repeat' first
      | refine k_then ?_
      | refine c_seq ?_
      | refine c_region ?_
      | refine s_nil ?_
      | refine s_move (by exact rfl) (by exact rfl) ?_
      | refine s_assign (by exact rfl) (by exact rfl) ?_
      | refine s_fa (by exact rfl) (by exact rfl) ?_
      | refine s_ld_box (by exact rfl) (by exact rfl) (by exact .tail _ (.tail _ (.head _))) (by exact rfl) ?_
      | refine s_lss (by exact rfl) (by exact rfl) (by exact rfl) ?_
      | refine c_block ?_
      | refine c_exit ?_
      | refine k_then_exit ?_
      | refine k_blk_eq ?_
      | (refine c_cond_p (by exact rfl) (fun h => ?_) (fun h => ?_) <;> try (exfalso; omega))
    obtain rfl : i = N := by omega
    have hlen : ∀ (r : List (Nat × Nat)) (c : List Nat), (r.foldl relaxO c).length = c.length := by
      intro r
      induction r with
      | nil => intro c; rfl
      | cons e r ih => intro c; rw [List.foldl_cons, ih]; simp [relaxO]
    have hbd : ∀ (r : List (Nat × Nat)) (c : List Nat), (∀ u, c.getD u 0 ≤ i) → ∀ u, (r.foldl relaxO c).getD u 0 ≤ i := by
      intro r
      induction r with
      | nil => intro c h; exact h
      | cons e r ih => intro c h; exact ih _ fun u => Nat.le_trans (relaxO_le c e u) (h u)
    generalize hl0 : (List.range i).map g = l0
    have hl0l : l0.length = i := by rw [← hl0]; simp
    have hl0b : ∀ u, l0.getD u 0 ≤ i := fun u => by
      rw [← hl0]
      by_cases hu : u < i
      · simp only [List.getD_eq_getElem?_getD, List.getElem?_map, List.getElem?_range hu, Option.map_some, Option.getD_some, g]
        split <;> omega
      · simp [hu]
    refine c_loop (fun q : Nat => q ≤ i ∧ (rounds relaxO (tn es) q l0).length = i ∧ ∀ u, (rounds relaxO (tn es) q l0).getD u 0 ≤ i) (fun q => [(1, .pointer (some ⟨b, 0, none⟩)), (3, vl), (6, .int .i64 (q : Int))]) (fun q => [rowHP vl 3 1 i (nV (rounds relaxO (tn es) q l0)), boxHP b 24 [.int .i64 (i : Int), v]]) (fun q => i - q) 0 [0, 1] ⟨Nat.zero_le _, hl0l, hl0b⟩ (by rw [fillL_all, hl0]; rfl) ⟨rfl, rfl, rfl, trivial⟩ ?_
    rintro q ⟨hq, hql, hqb⟩
    by_cases hqi : q < i
    · repeat' first
        | refine k_then ?_
        | refine c_seq ?_
        | refine c_region ?_
        | refine s_nil ?_
        | refine s_move (by exact rfl) (by exact rfl) ?_
        | refine s_assign (by exact rfl) (by exact rfl) ?_
        | refine s_fa (by exact rfl) (by exact rfl) ?_
        | refine s_ld_box (by exact rfl) (by exact rfl) (by exact .tail _ (.head _)) (by exact rfl) ?_
        | refine s_lss (by exact rfl) (by exact rfl) (by exact rfl) ?_
        | refine c_block ?_
        | refine c_skip ?_
        | (refine c_cond_p (by exact rfl) (fun h => ?_) (fun h => ?_) <;> try (exfalso; omega))
      generalize hc0 : rounds relaxO (tn es) q l0 = c0 at *
      refine c_loop (fun k : Nat => k ≤ es.length) (fun k => [(1, .pointer (some ⟨b, 0, none⟩)), (3, vl), (6, .int .i64 (q : Int)), (7, .int .i64 (k : Int))]) (fun k => [rowHP vl 3 1 i (nV ((tn (es.take k)).foldl relaxO c0)), boxHP b 24 [.int .i64 (i : Int), v]]) (fun k => es.length - k) 0 [0, 0] (Nat.zero_le _) (by exact rfl) ⟨rfl, rfl, rfl, rfl, trivial⟩ ?_
      intro k hk
      by_cases hkl : k < es.length
      · obtain ⟨e, he⟩ : ∃ e, es[k]? = some e := ⟨_, List.getElem?_eq_getElem hkl⟩
        obtain ⟨hE0, hE1, hE2⟩ := esV_get he
        obtain ⟨q1, q2, q3, -, -⟩ := hR.ok e (List.mem_of_getElem? he)
        have htk := tn_take he
        have hcb := hbd (tn (es.take k)) c0 hqb
        generalize hc : (tn (es.take k)).foldl relaxO c0 = c at *
        have hcl : c.length = i := by rw [← hc, hlen]; exact hql
        have hu := nV_get (l := c) (k := e.1.toNat) (by omega)
        have hv := nV_get (l := c) (k := e.2.1.toNat) (by omega)
        have hcb1 := hcb e.1.toNat
        have hcb2 := hcb e.2.1.toNat
        repeat' first
          | refine k_then ?_
          | refine c_seq ?_
          | refine c_region ?_
          | refine s_nil ?_
          | refine s_move (by exact rfl) (by exact rfl) ?_
          | refine s_fa (by exact rfl) (by exact rfl) ?_
          | refine s_ld_box (by exact rfl) (by exact rfl) (by exact .tail _ (.head _)) (by exact rfl) ?_
          | refine s_lss (by exact rfl) (by exact rfl) (by exact rfl) ?_
          | refine s_len (by exact rfl) (by exact rfl) (by assumption) ?_
          | refine c_block ?_
          | refine c_skip ?_
          | (refine c_cond_p (by exact rfl) (fun h => ?_) (fun h => ?_) <;> try (exfalso; omega))
        refine p_begin0 [(0, true), (1, true), (2, true), (3, true), (4, true), (5, true), (6, true), (7, true), (8, true), (9, true), (10, true), (11, true), (12, true), (13, true)] (by kernel_rfl) ?_
        repeat' first
          | refine p_nil ?_
          | (refine p_at (by exact rfl) ?_
             first
              | refine t_move (by exact rfl) (by exact rfl) (by exact fun _ h => h) ?_
              | refine t_assign (by exact rfl) (by exact rfl) (by exact fun _ h => h) ?_
              | refine t_fa (by exact rfl) (by exact rfl) (by exact fun _ h => h) ?_
              | refine t_ld_box (by exact rfl) (by exact rfl) (by exact .tail _ (.head _)) (by exact rfl) (by exact fun _ h => h) ?_
              | refine t_idx (by exact rfl) (by exact rfl) (by exact rfl) (by assumption) (by first | assumption | omega) (by exact fun _ h => h) ?_
              | refine t_fap (by exact rfl) (by exact rfl) (by assumption) (by omega) (by exact fun _ h => h) ?_
              | refine t_ld_ro (by exact rfl) (by exact rfl) (by assumption) (by assumption) (by exact fun _ h => h) ?_)
        repeat' first
          | refine k_then ?_
          | refine c_seq ?_
        have hc1 : (c.set e.1.toNat (min (c.getD e.1.toNat 0) (c.getD e.2.1.toNat 0 + 1))).length = i := by simp [hcl]
        refine c_cut (fun _ : Unit => True) (fun _ => [(1, .pointer (some ⟨b, 0, none⟩)), (3, vl), (6, .int .i64 (q : Int)), (7, .int .i64 (k : Int)), (8, .int .i64 e.1), (9, .int .i64 e.2.1)]) (fun _ => [rowHP vl 3 1 i (nV (c.set e.1.toNat (min (c.getD e.1.toNat 0) (c.getD e.2.1.toNat 0 + 1)))), boxHP b 24 [.int .i64 (i : Int), v]]) ?_ fun _ _ => ?_
        · refine p_begin2 [(0, true), (1, true), (2, true), (3, true), (4, true), (5, true), (6, true), (7, true), (8, true), (9, true), (10, true), (11, true)] [(12, true), (13, false)] [rowHP vl 3 1 i (nV c), boxHP b 24 [.int .i64 (i : Int), v]] (by kernel_rfl) ?_
          repeat' first
            | refine p_nil ?_
            | (refine p_at (by exact rfl) ?_
               first
                | refine t_move (by exact rfl) (by exact rfl) (by exact fun _ h => h) ?_
                | refine t_add (by exact rfl) (by exact rfl) (by exact rfl) (by omega) (by exact fun _ h => h) ?_
                | refine t_min (by exact rfl) (by exact rfl) (by exact rfl) (by exact fun _ h => h) ?_
                | refine t_idxi (by exact rfl) (by exact rfl) (by exact rfl) (by assumption) (by first | assumption | omega) (by exact fun _ h => h) ?_
                | refine t_ld_row (by exact rfl) (by exact rfl) (by exact .head _) (by assumption) (by exact fun _ h => h) ?_)
          refine p_cut [boxHP b 24 [.int .i64 (i : Int), v]] (fun _ h => h.tl) ?_
          · repeat' first
              | (refine p_at (by exact rfl) ?_
                 first
                  | refine t_idxi (by exact rfl) (by exact rfl) (by exact rfl) (by assumption) (by first | assumption | omega) (by exact fun _ h => h.tl) ?_)
            refine p_st_row (j := 0) (by exact rfl) (by exact rfl) (by exact rfl) (by exact rfl) rfl (by omega) (fun w h => h.pick [1] (by exact rfl)) ?_
            repeat' first
              | refine p_nil ?_
            refine cut_end () [0, 0] ?_ ⟨rfl, rfl, rfl, rfl, rfl, rfl, trivial⟩ trivial
            rw [show min ((c.getD e.1.toNat 0 : Nat) : Int) (((c.getD e.2.1.toNat 0 : Nat) : Int) + 1) = ((min (c.getD e.1.toNat 0) (c.getD e.2.1.toNat 0 + 1) : Nat) : Int) from by omega, nV_set]
            exact rfl
        have hcb1' : (c.set e.1.toNat (min (c.getD e.1.toNat 0) (c.getD e.2.1.toNat 0 + 1))).getD e.1.toNat 0 ≤ i := by
          rw [getD_set]
          split <;> omega
        have hcb2' : (c.set e.1.toNat (min (c.getD e.1.toNat 0) (c.getD e.2.1.toNat 0 + 1))).getD e.2.1.toNat 0 ≤ i := by
          rw [getD_set]
          split <;> omega
        have hrx : relaxO c (e.1.toNat, e.2.1.toNat) = ((c.set e.1.toNat (min (c.getD e.1.toNat 0) (c.getD e.2.1.toNat 0 + 1))).set e.2.1.toNat (min ((c.set e.1.toNat (min (c.getD e.1.toNat 0) (c.getD e.2.1.toNat 0 + 1))).getD e.2.1.toNat 0) ((c.set e.1.toNat (min (c.getD e.1.toNat 0) (c.getD e.2.1.toNat 0 + 1))).getD e.1.toNat 0 + 1))) := rfl
        generalize hcc : c.set e.1.toNat (min (c.getD e.1.toNat 0) (c.getD e.2.1.toNat 0 + 1)) = c1 at *
        clear hu hv
        have hu := nV_get (l := c1) (k := e.1.toNat) (by omega)
        have hv := nV_get (l := c1) (k := e.2.1.toNat) (by omega)
        repeat' first
          | refine k_then ?_
        refine c_cut (fun _ : Unit => True) (fun _ => [(1, .pointer (some ⟨b, 0, none⟩)), (3, vl), (6, .int .i64 (q : Int)), (7, .int .i64 (k : Int))]) (fun _ => [rowHP vl 3 1 i (nV (relaxO c (e.1.toNat, e.2.1.toNat))), boxHP b 24 [.int .i64 (i : Int), v]]) ?_ fun _ _ => ?_
        · refine p_begin2 [(0, true), (1, true), (2, true), (3, true), (4, true), (5, true), (6, true), (7, true), (8, true), (9, true), (10, true), (11, true)] [(12, true), (13, false)] [rowHP vl 3 1 i (nV c1), boxHP b 24 [.int .i64 (i : Int), v]] (by kernel_rfl) ?_
          repeat' first
            | refine p_nil ?_
            | (refine p_at (by exact rfl) ?_
               first
                | refine t_move (by exact rfl) (by exact rfl) (by exact fun _ h => h) ?_
                | refine t_add (by exact rfl) (by exact rfl) (by exact rfl) (by omega) (by exact fun _ h => h) ?_
                | refine t_min (by exact rfl) (by exact rfl) (by exact rfl) (by exact fun _ h => h) ?_
                | refine t_idxi (by exact rfl) (by exact rfl) (by exact rfl) (by assumption) (by first | assumption | omega) (by exact fun _ h => h) ?_
                | refine t_ld_row (by exact rfl) (by exact rfl) (by exact .head _) (by assumption) (by exact fun _ h => h) ?_)
          refine p_cut [boxHP b 24 [.int .i64 (i : Int), v]] (fun _ h => h.tl) ?_
          · repeat' first
              | (refine p_at (by exact rfl) ?_
                 first
                  | refine t_idxi (by exact rfl) (by exact rfl) (by exact rfl) (by assumption) (by first | assumption | omega) (by exact fun _ h => h.tl) ?_)
            refine p_st_row (j := 0) (by exact rfl) (by exact rfl) (by exact rfl) (by exact rfl) rfl (by omega) (fun w h => h.pick [1] (by exact rfl)) ?_
            repeat' first
              | refine p_nil ?_
            refine cut_end () [0, 0] ?_ ⟨rfl, rfl, rfl, rfl, trivial⟩ trivial
            rw [show min ((c1.getD e.2.1.toNat 0 : Nat) : Int) (((c1.getD e.1.toNat 0 : Nat) : Int) + 1) = ((min (c1.getD e.2.1.toNat 0) (c1.getD e.1.toNat 0 + 1) : Nat) : Int) from by omega, nV_set, ← hrx]
            exact rfl
        repeat' first
          | refine k_then ?_
          | refine c_region ?_
          | refine s_nil ?_
          | refine s_move (by exact rfl) (by exact rfl) ?_
          | refine s_assign (by exact rfl) (by exact rfl) ?_
          | refine s_add (by exact rfl) (by exact rfl) (by exact rfl) (by omega) ?_
          | refine k_blk ?_
        refine c_round (k + 1) [0, 0] (by rw [htk, List.foldl_append, hc]; rfl) (by exact ⟨rfl, rfl, rfl, rfl, trivial⟩) (by omega) (by omega)
      · repeat' first
          | refine k_then ?_
          | refine c_seq ?_
          | refine c_region ?_
          | refine s_nil ?_
          | refine s_move (by exact rfl) (by exact rfl) ?_
          | refine s_assign (by exact rfl) (by exact rfl) ?_
          | refine s_fa (by exact rfl) (by exact rfl) ?_
          | refine s_ld_box (by exact rfl) (by exact rfl) (by exact .tail _ (.head _)) (by exact rfl) ?_
          | refine s_lss (by exact rfl) (by exact rfl) (by exact rfl) ?_
          | refine s_add (by exact rfl) (by exact rfl) (by exact rfl) (by omega) ?_
          | refine s_len (by exact rfl) (by exact rfl) (by assumption) ?_
          | refine c_exit ?_
          | refine k_then_exit ?_
          | refine k_blk ?_
          | refine k_blk_eq ?_
          | (refine c_cond_p (by exact rfl) (fun h => ?_) (fun h => ?_) <;> try (exfalso; omega))
        obtain rfl : k = es.length := by omega
        refine c_round (q + 1) [0, 0] (by rw [List.take_length, rounds, hc0]; rfl) (by exact ⟨rfl, rfl, rfl, trivial⟩) ⟨by omega, by rw [rounds, hc0, hlen]; exact hql, by rw [rounds, hc0]; exact hbd _ _ hqb⟩ (by omega)
    · repeat' first
        | refine k_then ?_
        | refine c_seq ?_
        | refine c_region ?_
        | refine s_nil ?_
        | refine s_move (by exact rfl) (by exact rfl) ?_
        | refine s_assign (by exact rfl) (by exact rfl) ?_
        | refine s_fa (by exact rfl) (by exact rfl) ?_
        | refine s_ld_box (by exact rfl) (by exact rfl) (by exact .tail _ (.head _)) (by exact rfl) ?_
        | refine s_lss (by exact rfl) (by exact rfl) (by exact rfl) ?_
        | refine c_exit ?_
        | refine c_ret ?_
        | refine k_then_exit ?_
        | refine k_blk_eq ?_
        | (refine c_cond_p (by exact rfl) (fun h => ?_) (fun h => ?_) <;> try (exfalso; omega))
      obtain rfl : q = i := by omega
      refine ret1 [0] rfl rfl rfl ?_
      have := ref_levels hR.good (by rw [hN]; exact hLev)
      rw [hN] at this
      rw [← hl0, this]
end Go.Proofs.Ytkekpgkacjpjnaa
