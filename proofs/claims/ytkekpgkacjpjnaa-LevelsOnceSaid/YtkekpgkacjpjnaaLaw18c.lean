/- The law of levels over all shifts: each vertex is left out once. -/
import Derived.Test.YtkekpgkacjpjnaaLaw18a
import Derived.Test.YtkekpgkacjpjnaaLevNo
import Derived.Test.YtkekpgkacjpjnaaPMix
namespace Go.Proofs.Ytkekpgkacjpjnaa
open Go.RowKit Go.Sl Fil
set_option maxRecDepth 100000
set_option maxHeartbeats 8000000
set_option linter.unusedVariables false
set_option linter.unusedSimpArgs false
attribute [local irreducible] Code.wp wpList bodyPost wpQuiet Exit.then Exit.inBlock Post wpAnyH wpOp
theorem LevelsOnce_ok (n : Int) (v : Value) (es : List E) (k : Int) (w : World) (hs : Shp v es.length) (hr : RO w No v (esV es)) :
    Calls Try.prog 5 #[.agg #[.int .i64 n, v], .int .i64 k] w (Post w No (Just (.bool true))) := by
  refine enter0 (vs := [_, _]) Try.func5 rfl Try.ntmps5 rfl ?_
  repeat' first
    | refine k_then ?_
    | refine c_seq ?_
    | refine c_region ?_
    | refine s_nil ?_
    | refine s_assign (by exact rfl) (by exact rfl) ?_
    | refine s_ldk_box (by exact rfl) (by exact rfl) (by exact .head _) (by exact rfl) (by exact rfl) ?_
    | refine o_box (by exact rfl) (by exact rfl) (fun b => ?_)
  cases hl : (decide (n ≤ 60) && decide ((es.length : Int) ≤ 4 * 60))
  · refine s_call (by exact rfl) (by exact rfl) (fun w h => Light_b n v es.length 60 false w hl hs (by omega)) ?_
    repeat' first
      | refine k_then ?_
      | refine c_seq ?_
      | refine c_region ?_
      | refine s_nil ?_
      | refine s_move (by exact rfl) (by exact rfl) ?_
      | refine s_not (by exact rfl) (by exact rfl) ?_
      | refine s_pick_t (by exact rfl) (by exact rfl) (by exact rfl) ?_
      | refine c_cond_t (by exact rfl) ?_
      | refine g_skip (by exact rfl) (by exact rfl) (by exact rfl) (by exact rfl) ?_
    refine s_call (vs := []) (by exact rfl) (by exact rfl) (fun w h => alive_ok w) ?_
    repeat' first
      | refine k_then ?_
      | refine s_nil ?_
      | refine s_assign (by exact rfl) (by exact rfl) ?_
      | refine c_ret ?_
      | refine k_then_ret ?_
    refine ret1 [] rfl rfl rfl ⟨rfl, rfl⟩
  · refine s_call (by exact rfl) (by exact rfl) (fun w h => Light_b n v es.length 60 true w hl hs (by omega)) ?_
    have hn : n ≤ 60 ∧ (es.length : Int) ≤ 240 := by simpa using hl
    by_cases hk1 : k < 1
    · repeat' first
        | refine k_then ?_
        | refine c_seq ?_
        | refine c_region ?_
        | refine s_nil ?_
        | refine s_move (by exact rfl) (by exact rfl) ?_
        | refine s_not (by exact rfl) (by exact rfl) ?_
        | refine s_pick_t (by exact rfl) (by exact rfl) (by exact rfl) ?_
        | refine s_pick_f (by exact rfl) (by exact rfl) (by exact rfl) ?_
        | refine c_cond_t (by exact rfl) ?_
        | (refine g_case (by exact rfl) (by exact rfl) (fun h => ?_) (fun h => ?_) <;> try (exfalso; omega))
        | refine g_skip (by exact rfl) (by exact rfl) (by exact rfl) (by exact rfl) ?_
        | refine w_move (by exact rfl) (by exact rfl) (by exact rfl) (by exact rfl) ?_
        | refine w_lss (by exact rfl) (by exact rfl) (by exact rfl) (by exact rfl) (by exact rfl) ?_
      refine s_call (vs := []) (by exact rfl) (by exact rfl) (fun w h => alive_ok w) ?_
      repeat' first
        | refine k_then ?_
        | refine s_nil ?_
        | refine s_assign (by exact rfl) (by exact rfl) ?_
        | refine c_ret ?_
        | refine k_then_ret ?_
      refine ret1 [] rfl rfl rfl ⟨rfl, rfl⟩
    by_cases hk8 : 8 < k
    · repeat' first
        | refine k_then ?_
        | refine c_seq ?_
        | refine c_region ?_
        | refine s_nil ?_
        | refine s_move (by exact rfl) (by exact rfl) ?_
        | refine s_not (by exact rfl) (by exact rfl) ?_
        | refine s_pick_t (by exact rfl) (by exact rfl) (by exact rfl) ?_
        | refine s_pick_f (by exact rfl) (by exact rfl) (by exact rfl) ?_
        | refine c_cond_t (by exact rfl) ?_
        | (refine g_case (by exact rfl) (by exact rfl) (fun h => ?_) (fun h => ?_) <;> try (exfalso; omega))
        | refine g_skip (by exact rfl) (by exact rfl) (by exact rfl) (by exact rfl) ?_
        | refine w_move (by exact rfl) (by exact rfl) (by exact rfl) (by exact rfl) ?_
        | refine w_lss (by exact rfl) (by exact rfl) (by exact rfl) (by exact rfl) (by exact rfl) ?_
        | refine w_gtr (by exact rfl) (by exact rfl) (by exact rfl) (by exact rfl) (by exact rfl) ?_
      refine s_call (vs := []) (by exact rfl) (by exact rfl) (fun w h => alive_ok w) ?_
      repeat' first
        | refine k_then ?_
        | refine s_nil ?_
        | refine s_assign (by exact rfl) (by exact rfl) ?_
        | refine c_ret ?_
        | refine k_then_ret ?_
      refine ret1 [] rfl rfl rfl ⟨rfl, rfl⟩
    repeat' first
      | refine s_move (by exact rfl) (by exact rfl) ?_
      | refine s_not (by exact rfl) (by exact rfl) ?_
      | refine s_pick_f (by exact rfl) (by exact rfl) (by exact rfl) ?_
      | (refine g_case (by exact rfl) (by exact rfl) (fun h => ?_) (fun h => ?_) <;> try (exfalso; omega))
      | refine w_move (by exact rfl) (by exact rfl) (by exact rfl) (by exact rfl) ?_
      | refine w_lss (by exact rfl) (by exact rfl) (by exact rfl) (by exact rfl) (by exact rfl) ?_
      | refine w_gtr (by exact rfl) (by exact rfl) (by exact rfl) (by exact rfl) (by exact rfl) ?_
      | refine w_ldk_box (by exact rfl) (by exact rfl) (by exact rfl) (by exact rfl) (by exact .head _) (by exact rfl) (by exact rfl) ?_
      | refine g_on (by exact rfl) (by exact rfl) ?_
    refine s_call (by exact rfl) (by exact rfl) (fun w h => refRight_ok n v es w hs (ro_old h hr) (by omega)) ?_
    by_cases hR0 : rightK n es = 0
    · rw [hR0]
      have hR := right_iff.1 hR0
      have hlo := hR.lo
      have hhi := hR.hi
      repeat' first
        | refine k_then ?_
        | refine c_seq ?_
        | refine c_region ?_
        | refine s_nil ?_
        | refine s_pick_f (by exact rfl) (by exact rfl) (by exact rfl) ?_
        | refine s_ldk_box (by exact rfl) (by exact rfl) (by exact .head _) (by exact rfl) (by exact rfl) ?_
        | refine c_skip ?_
        | (refine c_cond_p (by exact rfl) (fun h => ?_) (fun h => ?_) <;> try (exfalso; omega))
        | refine w_neq (by exact rfl) (by exact rfl) (by exact rfl) (by exact rfl) (by exact rfl) ?_
      refine o_call (by exact rfl) (by exact rfl) (fun w h => levOf_ok n v es w hs (ro_old h hr) hR) ?_
      rintro _ _ ⟨out, lab, vl, rfl, rfl, hol, hLev0⟩
      have hLev := hLev0.nb_of
      have hlt := hLev.lt hR.good.adj
      refine know_row (v := vl) (.head _) fun hvl _ => ?_
      generalize hN : n.toNat = N at *
      have hnN : n = (N : Int) := by omega
      subst hnN
      obtain ⟨k0, rfl⟩ : ∃ k0 : Nat, k = (k0 : Int) := ⟨k.toNat, by omega⟩
      repeat' first
        | refine k_then ?_
        | refine c_seq ?_
        | refine c_region ?_
        | refine s_nil ?_
        | refine s_move (by exact rfl) (by exact rfl) ?_
        | refine s_assign (by exact rfl) (by exact rfl) ?_
        | refine s_neq (by exact rfl) (by exact rfl) (by exact rfl) ?_
        | refine s_extract (by exact rfl) (by exact rfl) (by exact rfl) ?_
        | refine s_pick_f (by exact rfl) (by exact rfl) (by exact rfl) ?_
        | refine c_block ?_
        | refine c_skip ?_
        | (refine c_cond_p (by exact rfl) (fun h => ?_) (fun h => ?_) <;> try (exfalso; omega))
        | (refine g_case (by exact rfl) (by exact rfl) (fun h => ?_) (fun h => ?_) <;> try (exfalso; omega))
        | refine w_move (by exact rfl) (by exact rfl) (by exact rfl) (by exact rfl) ?_
        | refine w_fa (by exact rfl) (by exact rfl) (by exact rfl) (by exact rfl) ?_
        | refine w_ld_box (by exact rfl) (by exact rfl) (by exact rfl) (by exact rfl) (by exact .tail _ (.head _)) (by exact rfl) ?_
        | refine w_neq (by exact rfl) (by exact rfl) (by exact rfl) (by exact rfl) (by exact rfl) ?_
        | refine w_len (by exact rfl) (by exact rfl) (by exact rfl) (by exact rfl) (by assumption) ?_
      refine c_loop (fun i : Nat => i ≤ es.length) (fun i => [(1, .int .i64 (k0 : Int)), (2, .pointer (some ⟨b, 0, none⟩)), (5, vl), (7, .int .i64 (i : Int))]) (fun _ => [rowHP vl 3 1 N (nV out), boxHP b 24 [.int .i64 (N : Int), v]]) (fun i => es.length - i) 0 [0, 0] (Nat.zero_le _) (by exact rfl) ⟨rfl, rfl, rfl, rfl, trivial⟩ ?_
      intro i hi
      by_cases hil : i < es.length
      · obtain ⟨e, he⟩ : ∃ e, es[i]? = some e := ⟨_, List.getElem?_eq_getElem hil⟩
        obtain ⟨hE0, hE1, hE2⟩ := esV_get he
        obtain ⟨q1, q2, q3, -, -⟩ := hR.ok e (List.mem_of_getElem? he)
        have hu := nV_get (l := out) (k := e.1.toNat) (by omega)
        have hv := nV_get (l := out) (k := e.2.1.toNat) (by omega)
        have hm2 := hR.good.edge_mem (a := e.1.toNat) (b := e.2.1.toNat) (List.mem_map.2 ⟨e, List.mem_of_getElem? he, rfl⟩)
        have hd1 := (hLev.edge e.1.toNat (by omega) _ hm2.1).2
        have hd2 := (hLev.edge e.2.1.toNat (by omega) _ hm2.2).2
        have hl1 := hlt e.1.toNat (by omega)
        have hl2 := hlt e.2.1.toNat (by omega)
        repeat' first
          | refine k_then ?_
          | refine c_seq ?_
          | refine c_region ?_
          | refine s_nil ?_
          | refine s_move (by exact rfl) (by exact rfl) ?_
          | refine s_fa (by exact rfl) (by exact rfl) ?_
          | refine s_ld_box (by exact rfl) (by exact rfl) (by exact .tail _ (.head _)) (by exact rfl) ?_
          | refine s_lss (by exact rfl) (by exact rfl) (by exact rfl) ?_
          | refine s_len (by exact rfl) (by exact rfl) (by assumption) ?_
          | refine c_block ?_
          | refine c_skip ?_
          | (refine c_cond_p (by exact rfl) (fun h => ?_) (fun h => ?_) <;> try (exfalso; omega))
        refine p_begin0 [(0, true), (1, true), (2, true), (3, true), (4, true), (5, true), (6, true), (7, true), (8, true), (9, true), (10, true), (11, true), (12, true), (13, true), (14, true), (15, true), (16, true), (17, true), (18, true), (19, true)] (by kernel_rfl) ?_
        repeat' first
          | refine p_nil ?_
          | (refine p_at (by exact rfl) ?_
             first
              | refine t_move (by exact rfl) (by exact rfl) (by exact fun _ h => h) ?_
              | refine t_assign (by exact rfl) (by exact rfl) (by exact fun _ h => h) ?_
              | refine t_fa (by exact rfl) (by exact rfl) (by exact fun _ h => h) ?_
              | refine t_ld_box (by exact rfl) (by exact rfl) (by exact .tail _ (.head _)) (by exact rfl) (by exact fun _ h => h) ?_
              | refine t_sub (by exact rfl) (by exact rfl) (by exact rfl) (by omega) (by exact fun _ h => h) ?_
              | refine t_idx (by exact rfl) (by exact rfl) (by exact rfl) (by assumption) (by first | assumption | omega) (by exact fun _ h => h) ?_
              | refine t_idxi (by exact rfl) (by exact rfl) (by exact rfl) (by assumption) (by first | assumption | omega) (by exact fun _ h => h) ?_
              | refine t_fap (by exact rfl) (by exact rfl) (by assumption) (by omega) (by exact fun _ h => h) ?_
              | refine t_ld_ro (by exact rfl) (by exact rfl) (by assumption) (by assumption) (by exact fun _ h => h) ?_
              | refine t_ld_row (by exact rfl) (by exact rfl) (by exact .head _) (by assumption) (by exact fun _ h => h) ?_)
        repeat' first
          | refine k_then ?_
          | refine c_seq ?_
          | refine c_region ?_
          | refine s_nil ?_
          | refine s_move (by exact rfl) (by exact rfl) ?_
          | refine s_assign (by exact rfl) (by exact rfl) ?_
          | refine s_lss (by exact rfl) (by exact rfl) (by exact rfl) ?_
          | refine s_add (by exact rfl) (by exact rfl) (by exact rfl) (by omega) ?_
          | refine s_pick_f (by exact rfl) (by exact rfl) (by exact rfl) ?_
          | refine c_skip ?_
          | refine k_blk ?_
          | (refine c_cond_p (by exact rfl) (fun h => ?_) (fun h => ?_) <;> try (exfalso; omega))
          | (refine g_case (by exact rfl) (by exact rfl) (fun h => ?_) (fun h => ?_) <;> try (exfalso; omega))
          | refine w_move (by exact rfl) (by exact rfl) (by exact rfl) (by exact rfl) ?_
          | refine w_gtr (by exact rfl) (by exact rfl) (by exact rfl) (by exact rfl) (by exact rfl) ?_
        refine c_round (i + 1) [0, 0] (by exact rfl) (by exact ⟨rfl, rfl, rfl, rfl, trivial⟩) (by omega) (by omega)
      · repeat' first
          | refine k_then ?_
          | refine c_seq ?_
          | refine c_region ?_
          | refine s_nil ?_
          | refine s_move (by exact rfl) (by exact rfl) ?_
          | refine s_fa (by exact rfl) (by exact rfl) ?_
          | refine s_ld_box (by exact rfl) (by exact rfl) (by exact .tail _ (.head _)) (by exact rfl) ?_
          | refine s_lss (by exact rfl) (by exact rfl) (by exact rfl) ?_
          | refine s_len (by exact rfl) (by exact rfl) (by assumption) ?_
          | refine c_exit ?_
          | refine k_then_exit ?_
          | refine k_blk_eq ?_
          | (refine c_cond_p (by exact rfl) (fun h => ?_) (fun h => ?_) <;> try (exfalso; omega))
        refine o_make (by exact rfl) (by exact rfl) (by exact rfl) (by omega) (by omega) fun vc hvc => ?_
        rw [made1 (z := .int .i64 0) rfl]
        repeat' first
          | refine k_then ?_
          | refine c_seq ?_
          | refine c_region ?_
          | refine s_nil ?_
          | refine s_assign (by exact rfl) (by exact rfl) ?_
          | refine c_block ?_
        generalize hod : (fun v => out.getD v 0) = o at *
        refine c_loop (fun s : Nat => s ≤ k0 + 1) (fun s => [(1, .int .i64 (k0 : Int)), (2, .pointer (some ⟨b, 0, none⟩)), (9, vc), (10, .int .i64 (s : Int))]) (fun s => [rowHP vc 3 1 N (nV ((List.range N).map (cntF o k0 s))), rowHP vl 3 1 N (nV out), boxHP b 24 [.int .i64 (N : Int), v]]) (fun s => k0 + 1 - s) 0 [0, 0, 0] (Nat.zero_le _) ?_ ⟨rfl, rfl, rfl, rfl, trivial⟩ ?_
        · rw [show (List.range N).map (cntF o k0 0) = List.replicate N 0 from by
            simp only [funext (cntF_zero o k0), List.map_const', List.length_range]]
          simp only [nV, List.map_replicate]
          rfl
        intro s hsk
        by_cases hsl : s < k0 + 1
        · repeat' first
            | refine k_then ?_
            | refine c_seq ?_
            | refine c_region ?_
            | refine s_nil ?_
            | refine s_move (by exact rfl) (by exact rfl) ?_
            | refine s_leq (by exact rfl) (by exact rfl) (by exact rfl) ?_
            | refine s_ldk_box (by exact rfl) (by exact rfl) (by exact .tail _ (.tail _ (.head _))) (by exact rfl) (by exact rfl) ?_
            | refine c_block ?_
            | refine c_skip ?_
            | (refine c_cond_p (by exact rfl) (fun h => ?_) (fun h => ?_) <;> try (exfalso; omega))
          refine o_call (by exact rfl) (by exact rfl) (fun w h => kept3_ok N v es k0 s o lab w hs (ro_old h hr) hR (by rw [Int.toNat_natCast]; exact hLev) (by omega)) ?_
          rintro _ _ ⟨va, rfl, rfl⟩
          rw [Int.toNat_natCast, Int.toNat_natCast, Int.toNat_natCast]
          refine know_row (v := va) (.head _) fun hva _ => ?_
          repeat' first
            | refine k_then ?_
            | refine c_seq ?_
            | refine c_region ?_
            | refine s_nil ?_
            | refine s_move (by exact rfl) (by exact rfl) ?_
            | refine s_assign (by exact rfl) (by exact rfl) ?_
            | refine s_neq (by exact rfl) (by exact rfl) (by exact rfl) ?_
            | refine s_extract (by exact rfl) (by exact rfl) (by exact rfl) ?_
            | refine s_pick_f (by exact rfl) (by exact rfl) (by exact rfl) ?_
            | refine c_block ?_
            | refine c_skip ?_
            | (refine c_cond_p (by exact rfl) (fun h => ?_) (fun h => ?_) <;> try (exfalso; omega))
            | (refine g_case (by exact rfl) (by exact rfl) (fun h => ?_) (fun h => ?_) <;> try (exfalso; omega))
            | refine w_move (by exact rfl) (by exact rfl) (by exact rfl) (by exact rfl) ?_
            | refine w_fa (by exact rfl) (by exact rfl) (by exact rfl) (by exact rfl) ?_
            | refine w_ld_box (by exact rfl) (by exact rfl) (by exact rfl) (by exact rfl) (by exact .tail _ (.tail _ (.tail _ (.head _)))) (by exact rfl) ?_
            | refine w_neq (by exact rfl) (by exact rfl) (by exact rfl) (by exact rfl) (by exact rfl) ?_
            | refine w_len (by exact rfl) (by exact rfl) (by exact rfl) (by exact rfl) (by assumption) ?_
          refine c_loop (fun i : Nat => i ≤ N) (fun i => [(1, .int .i64 (k0 : Int)), (2, .pointer (some ⟨b, 0, none⟩)), (9, vc), (10, .int .i64 (s : Int)), (11, va), (13, .int .i64 (i : Int))]) (fun i => [rowHP va 4 1 N (bV (keptL N k0 s o)), rowHP vc 3 1 N (nV (mixL (cntF o k0 (s + 1)) (cntF o k0 s) N i)), rowHP vl 3 1 N (nV out), boxHP b 24 [.int .i64 (N : Int), v]]) (fun i => N - i) 0 [0, 0, 0, 0] (Nat.zero_le _) (by rw [mix_zero]; rfl) ⟨rfl, rfl, rfl, rfl, rfl, rfl, trivial⟩ ?_
          intro i hi
          by_cases hin : i < N
          · have hka := bV_get (l := keptL N k0 s o) (k := i) (by simpa [keptL] using hin)
            rw [keptL_get hin] at hka
            have hst := cntF_step (o := o) (k := k0) (s := s) (v := i)
            by_cases hos : o i % (k0 + 1) = s
            · rw [decide_eq_false (by simpa using hos)] at hka
              rw [if_pos hos] at hst
              have hmi := nV_get (l := mixL (cntF o k0 (s + 1)) (cntF o k0 s) N i) (k := i) (by rw [mix_length]; exact hin)
              rw [mix_get _ _ _ hin] at hmi
              have hc1 : cntF o k0 s i ≤ 1 := by simp only [cntF]; split <;> omega
              repeat' first
                | refine k_then ?_
                | refine c_seq ?_
                | refine c_region ?_
                | refine s_nil ?_
                | refine s_move (by exact rfl) (by exact rfl) ?_
                | refine s_fa (by exact rfl) (by exact rfl) ?_
                | refine s_ld_box (by exact rfl) (by exact rfl) (by exact .tail _ (.tail _ (.tail _ (.head _)))) (by exact rfl) ?_
                | refine s_lss (by exact rfl) (by exact rfl) (by exact rfl) ?_
                | refine s_add (by exact rfl) (by exact rfl) (by exact rfl) (by omega) ?_
                | refine s_not (by exact rfl) (by exact rfl) ?_
                | refine s_idx (by exact rfl) (by exact rfl) (by exact rfl) (by assumption) (by first | assumption | omega) ?_
                | refine s_ld_row (by exact rfl) (by exact rfl) (by first | exact .head _ | exact .tail _ (.head _)) (by assumption) ?_
                | refine c_block ?_
                | refine c_skip ?_
                | (refine c_cond_p (by exact rfl) (fun h => ?_) (fun h => ?_) <;> try (exfalso; omega))
                | refine c_cond_t (by exact rfl) ?_
              refine o_st_row (i := 1) (by exact rfl) (by exact rfl) (by exact rfl) rfl (by omega) ?_
              repeat' first
                | refine k_then ?_
                | refine c_region ?_
                | refine s_nil ?_
                | refine s_move (by exact rfl) (by exact rfl) ?_
                | refine s_assign (by exact rfl) (by exact rfl) ?_
                | refine s_add (by exact rfl) (by exact rfl) (by exact rfl) (by omega) ?_
                | refine k_blk ?_
              refine c_round (i + 1) [0, 0, 0, 0] ?_ (by exact ⟨rfl, rfl, rfl, rfl, rfl, rfl, trivial⟩) (by omega) (by omega)
              rw [← mix_set _ _ hin, ← nV_set, hst]
              rfl
            · rw [decide_eq_true (by simpa using hos)] at hka
              rw [if_neg hos, Nat.add_zero] at hst
              repeat' first
                | refine k_then ?_
                | refine c_seq ?_
                | refine c_region ?_
                | refine s_nil ?_
                | refine s_move (by exact rfl) (by exact rfl) ?_
                | refine s_assign (by exact rfl) (by exact rfl) ?_
                | refine s_fa (by exact rfl) (by exact rfl) ?_
                | refine s_ld_box (by exact rfl) (by exact rfl) (by exact .tail _ (.tail _ (.tail _ (.head _)))) (by exact rfl) ?_
                | refine s_lss (by exact rfl) (by exact rfl) (by exact rfl) ?_
                | refine s_add (by exact rfl) (by exact rfl) (by exact rfl) (by omega) ?_
                | refine s_not (by exact rfl) (by exact rfl) ?_
                | refine s_idx (by exact rfl) (by exact rfl) (by exact rfl) (by assumption) (by first | assumption | omega) ?_
                | refine s_ld_row (by exact rfl) (by exact rfl) (by exact .head _) (by assumption) ?_
                | refine c_block ?_
                | refine c_skip ?_
                | refine k_blk ?_
                | (refine c_cond_p (by exact rfl) (fun h => ?_) (fun h => ?_) <;> try (exfalso; omega))
                | refine c_cond_f (by exact rfl) ?_
              refine c_round (i + 1) [0, 0, 0, 0] (by rw [mix_skip _ _ hst]; rfl) (by exact ⟨rfl, rfl, rfl, rfl, rfl, rfl, trivial⟩) (by omega) (by omega)
          · repeat' first
              | refine k_then ?_
              | refine c_seq ?_
              | refine c_region ?_
              | refine s_nil ?_
              | refine s_move (by exact rfl) (by exact rfl) ?_
              | refine s_assign (by exact rfl) (by exact rfl) ?_
              | refine s_fa (by exact rfl) (by exact rfl) ?_
              | refine s_ld_box (by exact rfl) (by exact rfl) (by exact .tail _ (.tail _ (.tail _ (.head _)))) (by exact rfl) ?_
              | refine s_lss (by exact rfl) (by exact rfl) (by exact rfl) ?_
              | refine s_add (by exact rfl) (by exact rfl) (by exact rfl) (by omega) ?_
              | refine c_exit ?_
              | refine k_then_exit ?_
              | refine k_blk ?_
              | refine k_blk_eq ?_
              | (refine c_cond_p (by exact rfl) (fun h => ?_) (fun h => ?_) <;> try (exfalso; omega))
            obtain rfl : i = N := by omega
            refine c_round (s + 1) [1, 1, 1] (by rw [mix_all]; rfl) (by exact ⟨rfl, rfl, rfl, rfl, trivial⟩) (by omega) (by omega)
        · repeat' first
            | refine k_then ?_
            | refine c_seq ?_
            | refine c_region ?_
            | refine s_nil ?_
            | refine s_move (by exact rfl) (by exact rfl) ?_
            | refine s_assign (by exact rfl) (by exact rfl) ?_
            | refine s_leq (by exact rfl) (by exact rfl) (by exact rfl) ?_
            | refine c_block ?_
            | refine c_exit ?_
            | refine k_then_exit ?_
            | refine k_blk_eq ?_
            | (refine c_cond_p (by exact rfl) (fun h => ?_) (fun h => ?_) <;> try (exfalso; omega))
          obtain rfl : s = k0 + 1 := by omega
          refine c_loop (fun i : Nat => i ≤ N) (fun i => [(2, .pointer (some ⟨b, 0, none⟩)), (9, vc), (14, .int .i64 (i : Int))]) (fun _ => [rowHP vc 3 1 N (nV ((List.range N).map (cntF o k0 (k0 + 1)))), boxHP b 24 [.int .i64 (N : Int), v]]) (fun i => N - i) 0 [0, 1] (Nat.zero_le _) (by exact rfl) ⟨rfl, rfl, rfl, trivial⟩ ?_
          intro i hi
          by_cases hin : i < N
          · have hmi := nV_get (l := (List.range N).map (cntF o k0 (k0 + 1))) (k := i) (by simpa using hin)
            rw [show ((List.range N).map (cntF o k0 (k0 + 1))).getD i 0 = 1 from by simp [hin, cntF_all]] at hmi
            repeat' first
              | refine k_then ?_
              | refine c_seq ?_
              | refine c_region ?_
              | refine s_nil ?_
              | refine s_move (by exact rfl) (by exact rfl) ?_
              | refine s_assign (by exact rfl) (by exact rfl) ?_
              | refine s_fa (by exact rfl) (by exact rfl) ?_
              | refine s_ld_box (by exact rfl) (by exact rfl) (by exact .tail _ (.head _)) (by exact rfl) ?_
              | refine s_lss (by exact rfl) (by exact rfl) (by exact rfl) ?_
              | refine s_neq (by exact rfl) (by exact rfl) (by exact rfl) ?_
              | refine s_add (by exact rfl) (by exact rfl) (by exact rfl) (by omega) ?_
              | refine s_idx (by exact rfl) (by exact rfl) (by exact rfl) (by assumption) (by first | assumption | omega) ?_
              | refine s_ld_row (by exact rfl) (by exact rfl) (by exact .head _) (by assumption) ?_
              | refine c_block ?_
              | refine c_skip ?_
              | refine k_blk ?_
              | (refine c_cond_p (by exact rfl) (fun h => ?_) (fun h => ?_) <;> try (exfalso; omega))
            refine c_round (i + 1) [0, 0] (by exact rfl) (by exact ⟨rfl, rfl, rfl, trivial⟩) (by omega) (by omega)
          · repeat' first
              | refine k_then ?_
              | refine c_seq ?_
              | refine c_region ?_
              | refine s_nil ?_
              | refine s_move (by exact rfl) (by exact rfl) ?_
              | refine s_fa (by exact rfl) (by exact rfl) ?_
              | refine s_ld_box (by exact rfl) (by exact rfl) (by exact .tail _ (.head _)) (by exact rfl) ?_
              | refine s_lss (by exact rfl) (by exact rfl) (by exact rfl) ?_
              | refine c_exit ?_
              | refine k_then_exit ?_
              | refine k_blk_eq ?_
              | (refine c_cond_p (by exact rfl) (fun h => ?_) (fun h => ?_) <;> try (exfalso; omega))
            refine s_call (vs := []) (by exact rfl) (by exact rfl) (fun w h => alive_ok w) ?_
            repeat' first
              | refine k_then ?_
              | refine s_nil ?_
              | refine s_assign (by exact rfl) (by exact rfl) ?_
              | refine c_ret ?_
            refine ret1 [] rfl rfl rfl ⟨rfl, rfl⟩
    · repeat' first
        | refine k_then ?_
        | refine c_seq ?_
        | refine c_region ?_
        | refine s_nil ?_
        | refine s_pick_f (by exact rfl) (by exact rfl) (by exact rfl) ?_
        | (refine c_cond_p (by exact rfl) (fun h => ?_) (fun h => ?_) <;> try (exfalso; omega))
        | refine w_neq (by exact rfl) (by exact rfl) (by exact rfl) (by exact rfl) (by exact rfl) ?_
      refine s_call (vs := []) (by exact rfl) (by exact rfl) (fun w h => alive_ok w) ?_
      repeat' first
        | refine k_then ?_
        | refine s_nil ?_
        | refine s_assign (by exact rfl) (by exact rfl) ?_
        | refine c_ret ?_
        | refine k_then_ret ?_
      refine ret1 [] rfl rfl rfl ⟨rfl, rfl⟩
end Go.Proofs.Ytkekpgkacjpjnaa
