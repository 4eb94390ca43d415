/- The document's answer for parts: of each vertex the least one that hangs together with it. -/
import Derived.Test.YtkekpgkacjpjnaaRef04
import Derived.Test.YtkekpgkacjpjnaaKept
import Derived.Test.YtkekpgkacjpjnaaPRef06
namespace Go.Proofs.Ytkekpgkacjpjnaa
open Go.RowKit Go.Sl Fil
set_option maxRecDepth 100000
set_option maxHeartbeats 8000000
set_option linter.unusedVariables false
set_option linter.unusedSimpArgs false
attribute [local irreducible] Code.wp wpList bodyPost wpQuiet Exit.then Exit.inBlock Post wpAnyH wpOp

theorem Labels_ok (n : Int) (v : Value) (es : List E) (w : World) (hs : Shp v es.length) (hr : RO w No v (esV es)) (hR : RightG n es) :
    Calls Try.prog 43 #[.agg #[.int .i64 n, v]] w (Post w No fun r L' => L' = [rowHP r 3 1 n.toNat (nV (rounds relaxL (tn es) n.toNat (List.range n.toNat)))]) := by
  have hm : es.length < 4611686018427387904 := by have := hR.many; omega
  have hlo := hR.lo
  have hhi := hR.hi
  refine enter0 (vs := [_]) Try.func43 rfl Try.ntmps43 rfl ?_
  repeat' first
    | refine k_then ?_
    | refine c_seq ?_
    | refine c_region ?_
    | refine s_nil ?_
    | refine s_assign (by exact rfl) (by exact rfl) ?_
    | refine s_fa (by exact rfl) (by exact rfl) ?_
    | refine s_ld_box (by exact rfl) (by exact rfl) (by exact .head _) (by exact rfl) ?_
    | refine o_box (by exact rfl) (by exact rfl) (fun b => ?_)
  refine o_make (by exact rfl) (by exact rfl) (by exact rfl) (by omega) (by omega) fun vl hvl => ?_
  rw [made1 (z := .int .i64 0) rfl]
  repeat' first
    | refine k_then ?_
    | refine c_seq ?_
    | refine c_region ?_
    | refine s_nil ?_
    | refine s_assign (by exact rfl) (by exact rfl) ?_
    | refine c_block ?_
  generalize hN : n.toNat = N at *
  have hnN : n = (N : Int) := by omega
  subst hnN
  refine c_loop (fun i : Nat => i ≤ N) (fun i => [(1, .pointer (some ⟨b, 0, none⟩)), (3, vl), (4, .int .i64 (i : Int))]) (fun i => [rowHP vl 3 1 N (nV (fillL id 0 N i)), boxHP b 24 [.int .i64 (N : Int), v]]) (fun i => N - i) 0 [0, 0] (Nat.zero_le _) (by rw [fill_zero]; simp only [nV, List.map_replicate]; rfl) ⟨rfl, rfl, rfl, trivial⟩ ?_
  intro i hi
  by_cases hil : i < N
  · repeat' first
      | refine k_then ?_
      | refine c_seq ?_
      | refine c_region ?_
      | refine s_nil ?_
      | refine s_move (by exact rfl) (by exact rfl) ?_
      | refine s_fa (by exact rfl) (by exact rfl) ?_
      | refine s_ld_box (by exact rfl) (by exact rfl) (by exact .tail _ (.head _)) (by exact rfl) ?_
      | refine s_lss (by exact rfl) (by exact rfl) (by exact rfl) ?_
      | refine s_idx (by exact rfl) (by exact rfl) (by exact rfl) (by assumption) (by first | assumption | omega) ?_
      | refine c_block ?_
      | refine c_skip ?_
      | (refine c_cond_p (by exact rfl) (fun h => ?_) (fun h => ?_) <;> try (exfalso; omega))
    refine o_st_row (i := 0) (by exact rfl) (by exact rfl) (by exact rfl) rfl (by omega) ?_
    repeat' first
      | refine k_then ?_
      | refine c_region ?_
      | refine s_nil ?_
      | refine s_move (by exact rfl) (by exact rfl) ?_
      | refine s_assign (by exact rfl) (by exact rfl) ?_
      | refine s_add (by exact rfl) (by exact rfl) (by exact rfl) (by omega) ?_
      | refine k_blk ?_
    refine c_round (i + 1) [0, 0] (by rw [nV_set, ← fill_set id 0 hil]; rfl) (by exact ⟨rfl, rfl, rfl, trivial⟩) (by omega) (by omega)
  · repeat' first
      | refine k_then ?_
      | refine c_seq ?_
      | refine c_region ?_
      | refine s_nil ?_
      | refine s_move (by exact rfl) (by exact rfl) ?_
      | refine s_assign (by exact rfl) (by exact rfl) ?_
      | refine s_fa (by exact rfl) (by exact rfl) ?_
      | refine s_ld_box (by exact rfl) (by exact rfl) (by exact .tail _ (.head _)) (by exact rfl) ?_
      | refine s_lss (by exact rfl) (by exact rfl) (by exact rfl) ?_
      | refine c_block ?_
      | refine c_exit ?_
      | refine k_then_exit ?_
      | refine k_blk_eq ?_
      | (refine c_cond_p (by exact rfl) (fun h => ?_) (fun h => ?_) <;> try (exfalso; omega))
    obtain rfl : i = N := by omega
    have hl0 : (List.range i).length = i := by simp
    have hlen : ∀ (r : List (Nat × Nat)) (c : List Nat), (r.foldl relaxL c).length = c.length := by
      intro r
      induction r with
      | nil => intro c; rfl
      | cons e r ih => intro c; rw [List.foldl_cons, ih]; simp [relaxL]
    have hrl : ∀ k, (rounds relaxL (tn es) k (List.range i)).length = i := by
      intro k
      induction k with
      | zero => simp [rounds]
      | succ k ih => rw [rounds, hlen, ih]
    refine c_loop (fun q : Nat => q ≤ i) (fun q => [(1, .pointer (some ⟨b, 0, none⟩)), (3, vl), (5, .int .i64 (q : Int))]) (fun q => [rowHP vl 3 1 i (nV (rounds relaxL (tn es) q (List.range i))), boxHP b 24 [.int .i64 (i : Int), v]]) (fun q => i - q) 0 [0, 0] (Nat.zero_le _) (by rw [fillL_all, List.map_id]; rfl) ⟨rfl, rfl, rfl, trivial⟩ ?_
    intro q hq
    by_cases hql : q < i
    · repeat' first
        | refine k_then ?_
        | refine c_seq ?_
        | refine c_region ?_
        | refine s_nil ?_
        | refine s_move (by exact rfl) (by exact rfl) ?_
        | refine s_assign (by exact rfl) (by exact rfl) ?_
        | refine s_fa (by exact rfl) (by exact rfl) ?_
        | refine s_ld_box (by exact rfl) (by exact rfl) (by exact .tail _ (.head _)) (by exact rfl) ?_
        | refine s_lss (by exact rfl) (by exact rfl) (by exact rfl) ?_
        | refine c_block ?_
        | refine c_skip ?_
        | (refine c_cond_p (by exact rfl) (fun h => ?_) (fun h => ?_) <;> try (exfalso; omega))
      generalize hc0 : rounds relaxL (tn es) q (List.range i) = c0 at *
      have hc0l : c0.length = i := by rw [← hc0]; exact hrl q
      refine c_loop (fun k : Nat => k ≤ es.length) (fun k => [(1, .pointer (some ⟨b, 0, none⟩)), (3, vl), (5, .int .i64 (q : Int)), (6, .int .i64 (k : Int))]) (fun k => [rowHP vl 3 1 i (nV ((tn (es.take k)).foldl relaxL c0)), boxHP b 24 [.int .i64 (i : Int), v]]) (fun k => es.length - k) 0 [0, 0] (Nat.zero_le _) (by exact rfl) ⟨rfl, rfl, rfl, rfl, trivial⟩ ?_
      intro k hk
      by_cases hkl : k < es.length
      · obtain ⟨e, he⟩ : ∃ e, es[k]? = some e := ⟨_, List.getElem?_eq_getElem hkl⟩
        obtain ⟨hE0, hE1, hE2⟩ := esV_get he
        obtain ⟨q1, q2, q3, -, -⟩ := hR.ok e (List.mem_of_getElem? he)
        have htk := tn_take he
        generalize hc : (tn (es.take k)).foldl relaxL c0 = c at *
        have hcl : c.length = i := by rw [← hc, hlen]; exact hc0l
        have hu := nV_get (l := c) (k := e.1.toNat) (by omega)
        have hv := nV_get (l := c) (k := e.2.1.toNat) (by omega)
        repeat' first
          | refine k_then ?_
          | refine c_seq ?_
          | refine c_region ?_
          | refine s_nil ?_
          | refine s_move (by exact rfl) (by exact rfl) ?_
          | refine s_fa (by exact rfl) (by exact rfl) ?_
          | refine s_ld_box (by exact rfl) (by exact rfl) (by exact .tail _ (.head _)) (by exact rfl) ?_
          | refine s_lss (by exact rfl) (by exact rfl) (by exact rfl) ?_
          | refine s_len (by exact rfl) (by exact rfl) (by assumption) ?_
          | refine c_block ?_
          | refine c_skip ?_
          | (refine c_cond_p (by exact rfl) (fun h => ?_) (fun h => ?_) <;> try (exfalso; omega))
        refine p_begin0 [(0, true), (1, true), (2, true), (3, true), (4, true), (5, true), (6, true), (7, true), (8, true), (9, true), (10, true), (11, true), (12, true), (13, true), (14, true), (15, true), (16, true), (17, true), (18, true), (19, true)] (by kernel_rfl) ?_
        repeat' first
          | refine p_nil ?_
          | (refine p_at (by exact rfl) ?_
             first
              | refine t_move (by exact rfl) (by exact rfl) (by exact fun _ h => h) ?_
              | refine t_assign (by exact rfl) (by exact rfl) (by exact fun _ h => h) ?_
              | refine t_fa (by exact rfl) (by exact rfl) (by exact fun _ h => h) ?_
              | refine t_ld_box (by exact rfl) (by exact rfl) (by exact .tail _ (.head _)) (by exact rfl) (by exact fun _ h => h) ?_
              | refine t_min (by exact rfl) (by exact rfl) (by exact rfl) (by exact fun _ h => h) ?_
              | refine t_idx (by exact rfl) (by exact rfl) (by exact rfl) (by assumption) (by first | assumption | omega) (by exact fun _ h => h) ?_
              | refine t_idxi (by exact rfl) (by exact rfl) (by exact rfl) (by assumption) (by first | assumption | omega) (by exact fun _ h => h) ?_
              | refine t_fap (by exact rfl) (by exact rfl) (by assumption) (by omega) (by exact fun _ h => h) ?_
              | refine t_ld_ro (by exact rfl) (by exact rfl) (by assumption) (by assumption) (by exact fun _ h => h) ?_
              | refine t_ld_row (by exact rfl) (by exact rfl) (by exact .head _) (by assumption) (by exact fun _ h => h) ?_)
        repeat' first
          | refine k_then ?_
          | refine c_seq ?_
          | refine c_region ?_
          | refine s_move (by exact rfl) (by exact rfl) ?_
          | refine s_fa (by exact rfl) (by exact rfl) ?_
          | refine s_ld_box (by exact rfl) (by exact rfl) (by exact .tail _ (.head _)) (by exact rfl) ?_
          | refine s_idx (by exact rfl) (by exact rfl) (by exact rfl) (by assumption) (by first | assumption | omega) ?_
          | refine s_idxi (by exact rfl) (by exact rfl) (by exact rfl) (by assumption) (by first | assumption | omega) ?_
          | refine s_fap (by exact rfl) (by exact rfl) (by assumption) (by omega) ?_
          | refine s_ld_ro (by exact rfl) (by exact rfl) (by assumption) (by assumption) ?_
        rw [show min ((c.getD e.1.toNat 0 : Nat) : Int) ((c.getD e.2.1.toNat 0 : Nat) : Int) = ((min (c.getD e.1.toNat 0) (c.getD e.2.1.toNat 0) : Nat) : Int) from by omega]
        refine o_st_row (i := 0) (by exact rfl) (by exact rfl) (by exact rfl) rfl (by omega) ?_
        repeat' first
          | refine k_then ?_
          | refine c_region ?_
          | refine s_nil ?_
          | refine s_move (by exact rfl) (by exact rfl) ?_
          | refine s_fa (by exact rfl) (by exact rfl) ?_
          | refine s_ld_box (by exact rfl) (by exact rfl) (by exact .tail _ (.head _)) (by exact rfl) ?_
          | refine s_idx (by exact rfl) (by exact rfl) (by exact rfl) (by assumption) (by first | assumption | omega) ?_
          | refine s_idxi (by exact rfl) (by exact rfl) (by exact rfl) (by assumption) (by first | assumption | omega) ?_
          | refine s_fap (by exact rfl) (by exact rfl) (by assumption) (by omega) ?_
          | refine s_ld_ro (by exact rfl) (by exact rfl) (by assumption) (by assumption) ?_
        refine o_st_row (i := 0) (by exact rfl) (by exact rfl) (by exact rfl) rfl (by omega) ?_
        repeat' first
          | refine k_then ?_
          | refine c_region ?_
          | refine s_nil ?_
          | refine s_move (by exact rfl) (by exact rfl) ?_
          | refine s_assign (by exact rfl) (by exact rfl) ?_
          | refine s_add (by exact rfl) (by exact rfl) (by exact rfl) (by omega) ?_
          | refine k_blk ?_
        refine c_round (k + 1) [0, 0] ?_ (by exact ⟨rfl, rfl, rfl, rfl, trivial⟩) (by omega) (by omega)
        rw [htk, List.foldl_append, hc, nV_set, nV_set]
        rfl
      · repeat' first
          | refine k_then ?_
          | refine c_seq ?_
          | refine c_region ?_
          | refine s_nil ?_
          | refine s_move (by exact rfl) (by exact rfl) ?_
          | refine s_assign (by exact rfl) (by exact rfl) ?_
          | refine s_fa (by exact rfl) (by exact rfl) ?_
          | refine s_ld_box (by exact rfl) (by exact rfl) (by exact .tail _ (.head _)) (by exact rfl) ?_
          | refine s_lss (by exact rfl) (by exact rfl) (by exact rfl) ?_
          | refine s_add (by exact rfl) (by exact rfl) (by exact rfl) (by omega) ?_
          | refine s_len (by exact rfl) (by exact rfl) (by assumption) ?_
          | refine c_exit ?_
          | refine k_then_exit ?_
          | refine k_blk ?_
          | refine k_blk_eq ?_
          | (refine c_cond_p (by exact rfl) (fun h => ?_) (fun h => ?_) <;> try (exfalso; omega))
        obtain rfl : k = es.length := by omega
        refine c_round (q + 1) [0, 0] (by rw [List.take_length, rounds, hc0]; rfl) (by exact ⟨rfl, rfl, rfl, trivial⟩) (by omega) (by omega)
    · repeat' first
        | refine k_then ?_
        | refine c_seq ?_
        | refine c_region ?_
        | refine s_nil ?_
        | refine s_move (by exact rfl) (by exact rfl) ?_
        | refine s_assign (by exact rfl) (by exact rfl) ?_
        | refine s_fa (by exact rfl) (by exact rfl) ?_
        | refine s_ld_box (by exact rfl) (by exact rfl) (by exact .tail _ (.head _)) (by exact rfl) ?_
        | refine s_lss (by exact rfl) (by exact rfl) (by exact rfl) ?_
        | refine c_exit ?_
        | refine c_ret ?_
        | refine k_then_exit ?_
        | refine k_blk_eq ?_
        | (refine c_cond_p (by exact rfl) (fun h => ?_) (fun h => ?_) <;> try (exfalso; omega))
      obtain rfl : q = i := by omega
      refine ret1 [0] rfl rfl rfl rfl
end Go.Proofs.Ytkekpgkacjpjnaa
