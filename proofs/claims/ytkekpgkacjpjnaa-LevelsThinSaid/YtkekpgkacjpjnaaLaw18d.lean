/- The law of levels on pieces: thin, apart, with no edge between them. -/
import Derived.Test.YtkekpgkacjpjnaaLaw18a
import Derived.Test.YtkekpgkacjpjnaaLevNo
import Derived.Test.YtkekpgkacjpjnaaPThin
namespace Go.Proofs.Ytkekpgkacjpjnaa
open Go.RowKit Go.Sl Fil
set_option maxRecDepth 100000
set_option maxHeartbeats 8000000
set_option linter.unusedVariables false
set_option linter.unusedSimpArgs false
attribute [local irreducible] Code.wp wpList bodyPost wpQuiet Exit.then Exit.inBlock Post wpAnyH wpOp
theorem LevelsThin_ok (n : Int) (v : Value) (es : List E) (k s : Int) (w : World) (hs : Shp v es.length) (hr : RO w No v (esV es)) :
    Calls Try.prog 6 #[.agg #[.int .i64 n, v], .int .i64 k, .int .i64 s] w (Post w No (Just (.bool true))) := by
  refine enter0 (vs := [_, _, _]) Try.func6 rfl Try.ntmps6 rfl ?_
  repeat' first
    | refine k_then ?_
    | refine c_seq ?_
    | refine c_region ?_
    | refine s_nil ?_
    | refine s_assign (by exact rfl) (by exact rfl) ?_
    | refine s_ldk_box (by exact rfl) (by exact rfl) (by exact .head _) (by exact rfl) (by exact rfl) ?_
    | refine o_box (by exact rfl) (by exact rfl) (fun b => ?_)
  cases hl : (decide (n ≤ 60) && decide ((es.length : Int) ≤ 4 * 60))
  · refine s_call (by exact rfl) (by exact rfl) (fun w h => Light_b n v es.length 60 false w hl hs (by omega)) ?_
    repeat' first
      | refine k_then ?_
      | refine c_seq ?_
      | refine c_region ?_
      | refine s_nil ?_
      | refine s_move (by exact rfl) (by exact rfl) ?_
      | refine s_not (by exact rfl) (by exact rfl) ?_
      | refine s_pick_t (by exact rfl) (by exact rfl) (by exact rfl) ?_
      | refine c_cond_t (by exact rfl) ?_
      | refine g_skip (by exact rfl) (by exact rfl) (by exact rfl) (by exact rfl) ?_
    refine s_call (vs := []) (by exact rfl) (by exact rfl) (fun w h => alive_ok w) ?_
    repeat' first
      | refine k_then ?_
      | refine s_nil ?_
      | refine s_assign (by exact rfl) (by exact rfl) ?_
      | refine c_ret ?_
      | refine k_then_ret ?_
    refine ret1 [] rfl rfl rfl ⟨rfl, rfl⟩
  refine s_call (by exact rfl) (by exact rfl) (fun w h => Light_b n v es.length 60 true w hl hs (by omega)) ?_
  have hn : n ≤ 60 ∧ (es.length : Int) ≤ 240 := by simpa using hl
  repeat' first
    | refine s_move (by exact rfl) (by exact rfl) ?_
    | refine s_not (by exact rfl) (by exact rfl) ?_
    | refine w_move (by exact rfl) (by exact rfl) (by exact rfl) (by exact rfl) ?_
    | refine w_ldk_box (by exact rfl) (by exact rfl) (by exact rfl) (by exact rfl) (by exact .head _) (by exact rfl) (by exact rfl) ?_
    | refine g_on (by exact rfl) (by exact rfl) ?_
  refine s_call (by exact rfl) (by exact rfl) (fun w h => Asked_ok n v es k s w hs (ro_old h hr) (by omega)) ?_
  by_cases hA : askK n es k s ≠ 0
  · repeat' first
      | refine k_then ?_
      | refine c_seq ?_
      | refine c_region ?_
      | refine s_nil ?_
      | refine s_pick_f (by exact rfl) (by exact rfl) (by exact rfl) ?_
      | (refine c_cond_p (by exact rfl) (fun h => ?_) (fun h => ?_) <;> try (exfalso; omega))
      | refine w_neq (by exact rfl) (by exact rfl) (by exact rfl) (by exact rfl) (by exact rfl) ?_
    refine s_call (vs := []) (by exact rfl) (by exact rfl) (fun w h => alive_ok w) ?_
    repeat' first
      | refine k_then ?_
      | refine s_nil ?_
      | refine s_assign (by exact rfl) (by exact rfl) ?_
      | refine c_ret ?_
      | refine k_then_ret ?_
    refine ret1 [] rfl rfl rfl ⟨rfl, rfl⟩
  have hA : askK n es k s = 0 := by omega
  rw [hA]
  obtain ⟨hR, hk⟩ := ask_zero hA
  have hlo := hR.lo
  have hhi := hR.hi
  repeat' first
    | refine k_then ?_
    | refine c_seq ?_
    | refine c_region ?_
    | refine s_nil ?_
    | refine s_pick_f (by exact rfl) (by exact rfl) (by exact rfl) ?_
    | refine s_ldk_box (by exact rfl) (by exact rfl) (by exact .head _) (by exact rfl) (by exact rfl) ?_
    | refine c_skip ?_
    | (refine c_cond_p (by exact rfl) (fun h => ?_) (fun h => ?_) <;> try (exfalso; omega))
    | refine w_neq (by exact rfl) (by exact rfl) (by exact rfl) (by exact rfl) (by exact rfl) ?_
  refine o_call (by exact rfl) (by exact rfl) (fun w h => levOf_ok n v es w hs (ro_old h hr) hR) ?_
  rintro _ _ ⟨out, lab, vl, rfl, rfl, hol, hLev0⟩
  have hLev := hLev0.nb_of
  have hlt := hLev.lt hR.good.adj
  refine know_row (v := vl) (.head _) fun hvl _ => ?_
  repeat' first
    | refine k_then ?_
    | refine c_seq ?_
    | refine c_region ?_
    | refine s_nil ?_
    | refine s_move (by exact rfl) (by exact rfl) ?_
    | refine s_assign (by exact rfl) (by exact rfl) ?_
    | refine s_extract (by exact rfl) (by exact rfl) (by exact rfl) ?_
    | refine s_ldk_box (by exact rfl) (by exact rfl) (by exact .tail _ (.head _)) (by exact rfl) (by exact rfl) ?_
  refine o_call (by exact rfl) (by exact rfl) (fun w h => Pieces_ok n v es k s (fun v => out.getD v 0) lab w hs (ro_old h hr) hR hLev hk) ?_
  rintro _ _ ⟨o', lab', vp, hp, hLev', rfl, hpl, rfl⟩
  refine know_row (v := vp) (.head _) fun hvp _ => ?_
  obtain ⟨k0, rfl⟩ : ∃ k0 : Nat, k = (k0 : Int) := ⟨k.toNat, by omega⟩
  obtain ⟨s0, rfl⟩ : ∃ s0 : Nat, s = (s0 : Int) := ⟨s.toNat, by omega⟩
  simp only [Int.toNat_natCast] at *
  have hspan := fun c => sel_span (c := c) hR hLev (by omega) (by omega) hLev'
  have hedge := fun c d => sel_edge (c := c) (d := d) hR hLev'
  have hzero := fun x y v l c => @Marked.zero n.toNat (keptL n.toNat k0 s0 fun v => out.getD v 0) lab' x y v l c
  have hap := fun i j v c d => @sel_apart n.toNat (keptL n.toNat k0 s0 fun v => out.getD v 0) lab' i j v c d
  have hcl : (selL (keptL n.toNat k0 s0 fun v => out.getD v 0) (compsS n.toNat lab')).length ≤ n.toNat := by
    have h1 := selL_length (keptL n.toNat k0 s0 fun v => out.getD v 0) (compsS n.toNat lab') (compsS n.toNat lab').length
    rw [List.take_length] at h1
    exact Nat.le_trans h1 (compsI_length _ _ _)
  generalize hcd : selL (keptL n.toNat k0 s0 fun v => out.getD v 0) (compsS n.toNat lab') = cs at *
  have hG := hR.good
  generalize hN : n.toNat = N at *
  have hnN : n = (N : Int) := by omega
  subst hnN
  repeat' first
    | refine k_then ?_
    | refine c_seq ?_
    | refine c_region ?_
    | refine s_nil ?_
    | refine s_move (by exact rfl) (by exact rfl) ?_
    | refine s_assign (by exact rfl) (by exact rfl) ?_
    | refine s_fa (by exact rfl) (by exact rfl) ?_
    | refine s_ld_box (by exact rfl) (by exact rfl) (by exact .tail _ (.tail _ (.tail _ (.head _)))) (by exact rfl) ?_
    | refine s_neq (by exact rfl) (by exact rfl) (by exact rfl) ?_
    | refine s_extract (by exact rfl) (by exact rfl) (by exact rfl) ?_
    | refine s_pick_f (by exact rfl) (by exact rfl) (by exact rfl) ?_
    | refine c_skip ?_
    | (refine c_cond_p (by exact rfl) (fun h => ?_) (fun h => ?_) <;> try (exfalso; omega))
    | (refine g_case (by exact rfl) (by exact rfl) (fun h => ?_) (fun h => ?_) <;> try (exfalso; omega))
    | refine w_move (by exact rfl) (by exact rfl) (by exact rfl) (by exact rfl) ?_
    | refine w_fa (by exact rfl) (by exact rfl) (by exact rfl) (by exact rfl) ?_
    | refine w_ld_box (by exact rfl) (by exact rfl) (by exact rfl) (by exact rfl) (by exact .tail _ (.tail _ (.tail _ (.head _)))) (by exact rfl) ?_
    | refine w_neq (by exact rfl) (by exact rfl) (by exact rfl) (by exact rfl) (by exact rfl) ?_
    | refine w_len (by exact rfl) (by exact rfl) (by exact rfl) (by exact rfl) (by assumption) ?_
  refine o_make (by exact rfl) (by exact rfl) (by exact rfl) (by omega) (by omega) fun vo hvo => ?_
  rw [made1 (z := .int .i64 0) rfl]
  repeat' first
    | refine k_then ?_
    | refine c_seq ?_
    | refine c_region ?_
    | refine s_nil ?_
    | refine s_assign (by exact rfl) (by exact rfl) ?_
    | refine c_block ?_
  refine c_loop (fun x : Nat × List Nat => x.1 ≤ cs.length ∧ x.2.length = N ∧ Marked cs x.1 0 x.2) (fun x => [(1, .int .i64 (k0 : Int)), (3, .pointer (some ⟨b, 0, none⟩)), (7, vl), (9, vp), (11, vo), (12, .int .i64 (x.1 : Int))])
    (fun x => [rowHP vo 3 1 N (nV x.2), rowHP vp 27 1 cs.length hp, starHP (kids rowN hp cs), rowHP vl 3 1 N (nV out), boxHP b 24 [.int .i64 (N : Int), v]]) (fun x => cs.length - x.1) (0, List.replicate N 0) [0, 0, 0, 0, 0] ⟨Nat.zero_le _, by simp, Marked.init _ _⟩ ?_ ⟨rfl, rfl, rfl, rfl, rfl, rfl, trivial⟩ ?_
  · simp only [nV, List.map_replicate]
    rfl
  rintro ⟨x, ol⟩ ⟨hx, holl, hM⟩
  dsimp only at hx holl hM ⊢
  by_cases hxl : x < cs.length
  · obtain ⟨c, hc⟩ : ∃ c, cs[x]? = some c := ⟨_, List.getElem?_eq_getElem hxl⟩
    obtain ⟨hd, hhd⟩ : ∃ hd, hp[x]? = some hd := ⟨_, List.getElem?_eq_getElem (by omega)⟩
    obtain ⟨base, hbN, hbs⟩ := hspan c (List.mem_of_getElem? hc)
    have hhd1 : hp[x * 1]? = some hd := by simpa using hhd
    have hK : rowHP hd 3 1 c.length (nV c) ∈ kids rowN hp cs := kids_mem (f := rowN) hhd hc
    refine know_kid (Ks := kids rowN hp cs) (.tail _ (.tail _ (.head _))) hK fun hhs _ => ?_
    have hcm := hhs.1
    simp only [maxLen] at hcm
    repeat' first
      | refine k_then ?_
      | refine c_seq ?_
      | refine c_region ?_
      | refine s_nil ?_
      | refine s_move (by exact rfl) (by exact rfl) ?_
      | refine s_assign (by exact rfl) (by exact rfl) ?_
      | refine s_fa (by exact rfl) (by exact rfl) ?_
      | refine s_ld_box (by exact rfl) (by exact rfl) (by exact .tail _ (.tail _ (.tail _ (.tail _ (.head _))))) (by exact rfl) ?_
      | refine s_lss (by exact rfl) (by exact rfl) (by exact rfl) ?_
      | refine s_len (by exact rfl) (by exact rfl) (by assumption) ?_
      | refine c_block ?_
      | refine c_skip ?_
      | (refine c_cond_p (by exact rfl) (fun h => ?_) (fun h => ?_) <;> try (exfalso; omega))
    refine c_loop (fun y : Nat × List Nat × Nat × Nat => y.1 ≤ c.length ∧ y.2.1.length = N ∧ Marked cs x y.1 y.2.1 ∧ base ≤ y.2.2.1 ∧ y.2.2.1 ≤ N ∧ y.2.2.2 + 1 ≤ base + k0) (fun y => [(1, .int .i64 (k0 : Int)), (3, .pointer (some ⟨b, 0, none⟩)), (7, vl), (9, vp), (11, vo), (12, .int .i64 (x : Int)), (13, .int .i64 (y.2.2.1 : Int)), (14, .int .i64 (y.2.2.2 : Int)), (15, .int .i64 (y.1 : Int))])
      (fun y => [rowHP vo 3 1 N (nV y.2.1), rowHP vp 27 1 cs.length hp, starHP (kids rowN hp cs), rowHP vl 3 1 N (nV out), boxHP b 24 [.int .i64 (N : Int), v]]) (fun y => c.length - y.1) (0, ol, N, 0) [0, 0, 0, 0, 0] ⟨Nat.zero_le _, holl, hM, hbN, Nat.le_refl _, by dsimp only; omega⟩ (by exact rfl) ⟨rfl, rfl, rfl, rfl, rfl, rfl, rfl, rfl, rfl, trivial⟩ ?_
    clear hM holl
    clear ol
    rintro ⟨y, ol, lo, hi⟩ ⟨hy, holl, hM, hb1, hb2, hb3⟩
    dsimp only at hy holl hM hb1 hb2 hb3 ⊢
    by_cases hyl : y < c.length
    · obtain ⟨u, hu⟩ : ∃ u, c[y]? = some u := ⟨_, List.getElem?_eq_getElem hyl⟩
      obtain ⟨huN, hu1, hu2⟩ := hbs u (List.mem_of_getElem? hu)
      have hcy : (nV c)[y * 1]? = some (.int .i64 (u : Int)) := by simp [nV, hu]
      have hou := nV_get (l := ol) (k := u) (by omega)
      rw [hzero x y u ol c hM hc hu] at hou
      have hlu := nV_get (l := out) (k := u) (by omega)
      have hM2 := hM.put hc hu
      repeat' first
        | refine k_then ?_
        | refine c_seq ?_
        | refine c_region ?_
        | refine s_nil ?_
        | refine s_move (by exact rfl) (by exact rfl) ?_
        | refine s_assign (by exact rfl) (by exact rfl) ?_
        | refine s_lss (by exact rfl) (by exact rfl) (by exact rfl) ?_
        | refine s_add (by exact rfl) (by exact rfl) (by exact rfl) (by omega) ?_
        | refine s_len (by exact rfl) (by exact rfl) (by assumption) ?_
        | refine s_idx (by exact rfl) (by exact rfl) (by exact rfl) (by assumption) (by first | assumption | omega) ?_
        | refine s_pick_f (by exact rfl) (by exact rfl) (by exact rfl) ?_
        | refine s_ld_row (by exact rfl) (by exact rfl) (by exact .tail _ (.head _)) (by assumption) ?_
        | refine s_ld_kid (by exact rfl) (by exact rfl) (by assumption) (by exact .tail _ (.tail _ (.head _))) (by assumption) ?_
        | refine c_block ?_
        | refine c_skip ?_
        | (refine c_cond_p (by exact rfl) (fun h => ?_) (fun h => ?_) <;> try (exfalso; omega))
        | (refine g_case (by exact rfl) (by exact rfl) (fun h => ?_) (fun h => ?_) <;> try (exfalso; omega))
        | refine w_move (by exact rfl) (by exact rfl) (by exact rfl) (by exact rfl) ?_
        | refine w_fa (by exact rfl) (by exact rfl) (by exact rfl) (by exact rfl) ?_
        | refine w_ld_box (by exact rfl) (by exact rfl) (by exact rfl) (by exact rfl) (by exact .tail _ (.tail _ (.tail _ (.tail _ (.head _))))) (by exact rfl) ?_
        | refine w_geq (by exact rfl) (by exact rfl) (by exact rfl) (by exact rfl) (by exact rfl) ?_
        | refine w_neq (by exact rfl) (by exact rfl) (by exact rfl) (by exact rfl) (by exact rfl) ?_
        | refine w_idx (by exact rfl) (by exact rfl) (by exact rfl) (by exact rfl) (by exact rfl) (by assumption) (by first | assumption | omega) ?_
        | refine w_ld_row (by exact rfl) (by exact rfl) (by exact rfl) (by exact rfl) (by exact .head _) (by assumption) ?_
      refine o_st_row (i := 0) (by exact rfl) (by exact rfl) (by exact rfl) rfl (by omega) ?_
      repeat' first
        | refine k_then ?_
        | refine s_nil ?_
      refine p_begin0 [(0, true), (1, true), (2, true), (3, true), (4, true), (5, true), (6, true), (7, true), (8, true), (9, true), (10, true), (11, true), (12, true), (13, true)] (by kernel_rfl) ?_
      repeat' first
        | refine p_nil ?_
        | (refine p_at (by exact rfl) ?_
           first
            | refine t_move (by exact rfl) (by exact rfl) (by exact fun _ h => h) ?_
            | refine t_assign (by exact rfl) (by exact rfl) (by exact fun _ h => h) ?_
            | refine t_min (by exact rfl) (by exact rfl) (by exact rfl) (by exact fun _ h => h) ?_
            | refine t_max (by exact rfl) (by exact rfl) (by exact rfl) (by exact fun _ h => h) ?_
            | refine t_idx (by exact rfl) (by exact rfl) (by exact rfl) (by assumption) (by first | assumption | omega) (by exact fun _ h => h) ?_
            | refine t_ld_row (by exact rfl) (by exact rfl) (by exact .tail _ (.tail _ (.tail _ (.head _)))) (by assumption) (by exact fun _ h => h) ?_)
      repeat' first
        | refine k_then ?_
        | refine c_region ?_
        | refine s_nil ?_
        | refine s_move (by exact rfl) (by exact rfl) ?_
        | refine s_assign (by exact rfl) (by exact rfl) ?_
        | refine s_add (by exact rfl) (by exact rfl) (by exact rfl) (by omega) ?_
        | refine k_blk ?_
      refine c_round (y + 1, ol.set u (x + 1), min lo (out.getD u 0), max hi (out.getD u 0)) [0, 0, 0, 0, 0] ?_ ?_ ⟨by dsimp only; omega, by simp [holl], hM2, by dsimp only at hu1 ⊢; omega, by dsimp only; omega, by dsimp only at hu2 ⊢; omega⟩ (by dsimp only; omega)
      · dsimp only
        rw [← nV_set]
        rfl
      · dsimp only
        rw [show ((min lo (out.getD u 0) : Nat) : Int) = min (lo : Int) ((out.getD u 0 : Nat) : Int) from by omega, show ((max hi (out.getD u 0) : Nat) : Int) = max (hi : Int) ((out.getD u 0 : Nat) : Int) from by omega]
        exact ⟨rfl, rfl, rfl, rfl, rfl, rfl, rfl, rfl, rfl, trivial⟩
    · repeat' first
        | refine k_then ?_
        | refine c_seq ?_
        | refine c_region ?_
        | refine s_nil ?_
        | refine s_move (by exact rfl) (by exact rfl) ?_
        | refine s_assign (by exact rfl) (by exact rfl) ?_
        | refine s_lss (by exact rfl) (by exact rfl) (by exact rfl) ?_
        | refine s_geq (by exact rfl) (by exact rfl) (by exact rfl) ?_
        | refine s_add (by exact rfl) (by exact rfl) (by exact rfl) (by omega) ?_
        | refine s_sub (by exact rfl) (by exact rfl) (by exact rfl) (by omega) ?_
        | refine s_len (by exact rfl) (by exact rfl) (by assumption) ?_
        | refine s_idx (by exact rfl) (by exact rfl) (by exact rfl) (by assumption) (by first | assumption | omega) ?_
        | refine s_ld_row (by exact rfl) (by exact rfl) (by exact .tail _ (.head _)) (by assumption) ?_
        | refine c_skip ?_
        | refine c_exit ?_
        | refine k_then_exit ?_
        | refine k_blk ?_
        | refine k_blk_eq ?_
        | (refine c_cond_p (by exact rfl) (fun h => ?_) (fun h => ?_) <;> try (exfalso; omega))
      refine c_round (x + 1, ol) [0, 0, 0, 0, 0] (by exact rfl) (by exact ⟨rfl, rfl, rfl, rfl, rfl, rfl, trivial⟩) ⟨by dsimp only; omega, holl, hM.next⟩ (by dsimp only; omega)
  · repeat' first
      | refine k_then ?_
      | refine c_seq ?_
      | refine c_region ?_
      | refine s_nil ?_
      | refine s_move (by exact rfl) (by exact rfl) ?_
      | refine s_assign (by exact rfl) (by exact rfl) ?_
      | refine s_lss (by exact rfl) (by exact rfl) (by exact rfl) ?_
      | refine s_len (by exact rfl) (by exact rfl) (by assumption) ?_
      | refine c_block ?_
      | refine c_exit ?_
      | refine k_then_exit ?_
      | refine k_blk_eq ?_
      | (refine c_cond_p (by exact rfl) (fun h => ?_) (fun h => ?_) <;> try (exfalso; omega))
    refine c_loop (fun i : Nat => i ≤ es.length) (fun i => [(3, .pointer (some ⟨b, 0, none⟩)), (11, vo), (17, .int .i64 (i : Int))]) (fun _ => [rowHP vo 3 1 N (nV ol), boxHP b 24 [.int .i64 (N : Int), v]]) (fun i => es.length - i) 0 [0, 3] (Nat.zero_le _) (by exact rfl) ⟨rfl, rfl, rfl, trivial⟩ ?_
    intro i hi
    by_cases hil : i < es.length
    · obtain ⟨e, he⟩ : ∃ e, es[i]? = some e := ⟨_, List.getElem?_eq_getElem hil⟩
      obtain ⟨hE0, hE1, hE2⟩ := esV_get he
      obtain ⟨q1, q2, q3, -, -⟩ := hR.ok e (List.mem_of_getElem? he)
      have hu := nV_get (l := ol) (k := e.1.toNat) (by omega)
      have hv := nV_get (l := ol) (k := e.2.1.toNat) (by omega)
      have hm2 := hG.edge_mem (a := e.1.toNat) (b := e.2.1.toNat) (List.mem_map.2 ⟨e, List.mem_of_getElem? he, rfl⟩)
      have heq : ol.getD e.1.toNat 0 ≠ 0 → ol.getD e.2.1.toNat 0 ≠ 0 → ol.getD e.1.toNat 0 = ol.getD e.2.1.toNat 0 := fun h1 h2 => by
        obtain ⟨j, c, hj, e1, hc, _⟩ := hM _ h1
        obtain ⟨j', d, hj', e2, hd, _⟩ := hM _ h2
        have hdc := hedge c d (List.mem_of_getElem? hj) (List.mem_of_getElem? hj') hc hd hm2.1
        rw [e1, e2, hap j j' _ c d hj hj' hdc hd]
      repeat' first
        | refine k_then ?_
        | refine c_seq ?_
        | refine c_region ?_
        | refine s_nil ?_
        | refine s_move (by exact rfl) (by exact rfl) ?_
        | refine s_fa (by exact rfl) (by exact rfl) ?_
        | refine s_ld_box (by exact rfl) (by exact rfl) (by exact .tail _ (.head _)) (by exact rfl) ?_
        | refine s_lss (by exact rfl) (by exact rfl) (by exact rfl) ?_
        | refine s_len (by exact rfl) (by exact rfl) (by assumption) ?_
        | refine c_block ?_
        | refine c_skip ?_
        | (refine c_cond_p (by exact rfl) (fun h => ?_) (fun h => ?_) <;> try (exfalso; omega))
      refine p_begin0 [(0, true), (1, true), (2, true), (3, true), (4, true), (5, true), (6, true), (7, true), (8, true), (9, true), (10, true), (11, true), (12, true), (13, true), (14, true), (15, true), (16, true), (17, true), (18, true), (19, true)] (by kernel_rfl) ?_
      repeat' first
        | refine p_nil ?_
        | (refine p_at (by exact rfl) ?_
           first
            | refine t_move (by exact rfl) (by exact rfl) (by exact fun _ h => h) ?_
            | refine t_assign (by exact rfl) (by exact rfl) (by exact fun _ h => h) ?_
            | refine t_fa (by exact rfl) (by exact rfl) (by exact fun _ h => h) ?_
            | refine t_ld_box (by exact rfl) (by exact rfl) (by exact .tail _ (.head _)) (by exact rfl) (by exact fun _ h => h) ?_
            | refine t_idx (by exact rfl) (by exact rfl) (by exact rfl) (by assumption) (by first | assumption | omega) (by exact fun _ h => h) ?_
            | refine t_idxi (by exact rfl) (by exact rfl) (by exact rfl) (by assumption) (by first | assumption | omega) (by exact fun _ h => h) ?_
            | refine t_fap (by exact rfl) (by exact rfl) (by assumption) (by omega) (by exact fun _ h => h) ?_
            | refine t_ld_ro (by exact rfl) (by exact rfl) (by assumption) (by assumption) (by exact fun _ h => h) ?_
            | refine t_ld_row (by exact rfl) (by exact rfl) (by exact .head _) (by assumption) (by exact fun _ h => h) ?_)
      repeat' first
        | refine k_then ?_
        | refine c_seq ?_
        | refine c_region ?_
        | refine s_nil ?_
        | refine s_move (by exact rfl) (by exact rfl) ?_
        | refine s_assign (by exact rfl) (by exact rfl) ?_
        | refine s_neq (by exact rfl) (by exact rfl) (by exact rfl) ?_
        | refine s_add (by exact rfl) (by exact rfl) (by exact rfl) (by omega) ?_
        | refine s_pick_t (by exact rfl) (by exact rfl) (by exact rfl) ?_
        | refine s_pick_f (by exact rfl) (by exact rfl) (by exact rfl) ?_
        | refine c_skip ?_
        | refine k_blk ?_
        | (refine c_cond_p (by exact rfl) (fun h => ?_) (fun h => ?_) <;> try (exfalso; omega))
        | refine c_cond_f (by exact rfl) ?_
        | (refine g_case (by exact rfl) (by exact rfl) (fun h => ?_) (fun h => ?_) <;> try (exfalso; omega))
        | refine g_skip (by exact rfl) (by exact rfl) (by exact rfl) (by exact rfl) ?_
        | refine w_move (by exact rfl) (by exact rfl) (by exact rfl) (by exact rfl) ?_
        | refine w_neq (by exact rfl) (by exact rfl) (by exact rfl) (by exact rfl) (by exact rfl) ?_
      all_goals refine c_round (i + 1) [0, 0] (by exact rfl) (by exact ⟨rfl, rfl, rfl, trivial⟩) (by omega) (by omega)
    · repeat' first
        | refine k_then ?_
        | refine c_seq ?_
        | refine c_region ?_
        | refine s_nil ?_
        | refine s_move (by exact rfl) (by exact rfl) ?_
        | refine s_fa (by exact rfl) (by exact rfl) ?_
        | refine s_ld_box (by exact rfl) (by exact rfl) (by exact .tail _ (.head _)) (by exact rfl) ?_
        | refine s_lss (by exact rfl) (by exact rfl) (by exact rfl) ?_
        | refine s_len (by exact rfl) (by exact rfl) (by assumption) ?_
        | refine c_exit ?_
        | refine k_then_exit ?_
        | refine k_blk_eq ?_
        | (refine c_cond_p (by exact rfl) (fun h => ?_) (fun h => ?_) <;> try (exfalso; omega))
      refine s_call (vs := []) (by exact rfl) (by exact rfl) (fun w h => alive_ok w) ?_
      repeat' first
        | refine k_then ?_
        | refine s_nil ?_
        | refine s_assign (by exact rfl) (by exact rfl) ?_
        | refine c_ret ?_
      refine ret1 [] rfl rfl rfl ⟨rfl, rfl⟩
end Go.Proofs.Ytkekpgkacjpjnaa
