/- Package parts: to which neighbours, by which edge. -/
import Derived.Test.YtkekpgkacjpjnaaNear
import Derived.Test.YtkekpgkacjpjnaaPArcs
namespace Go.Sl
open Go Go.RowKit
def aV (l : List (Nat × Nat)) : List Value := l.flatMap fun a => [.int .i64 (a.1 : Int), .int .i64 (a.2 : Int)]
def rowA (h : Value) (l : List (Nat × Nat)) : HP := rowHP h 89 2 l.length (aV l)
end Go.Sl
namespace Go.Proofs.Ytkekpgkacjpjnaa
open Go.RowKit Go.Sl Fil
set_option maxRecDepth 100000
set_option maxHeartbeats 8000000
set_option linter.unusedVariables false
set_option linter.unusedSimpArgs false
attribute [local irreducible] Code.wp wpList bodyPost wpQuiet Exit.then Exit.inBlock Post wpAnyH wpOp

theorem arcs_ok (n : Int) (v : Value) (es : List E) (w : World) (hs : Shp v es.length) (hr : RO w No v (esV es)) (hR : RightG n es) :
    Calls Try.prog 65 #[.agg #[.int .i64 n, v]] w (Post w No fun r L' => ∃ hs : List Value, hs.length = n.toNat ∧ L' = [rowHP r 87 1 n.toNat hs, starHP (kids rowA hs (arcsL n.toNat (tn es)))]) := by
  have hm : es.length < 4611686018427387904 := by have := hR.many; omega
  have hlo := hR.lo
  have hhi := hR.hi
  refine enter0 (vs := [_]) Try.func65 rfl Try.ntmps65 rfl ?_
  repeat' first
    | refine k_then ?_
    | refine c_seq ?_
    | refine c_region ?_
    | refine s_nil ?_
    | refine s_assign (by exact rfl) (by exact rfl) ?_
    | refine s_fa (by exact rfl) (by exact rfl) ?_
    | refine s_ld_box (by exact rfl) (by exact rfl) (by exact .head _) (by exact rfl) ?_
    | refine o_box (by exact rfl) (by exact rfl) (fun b => ?_)
  refine o_make (by exact rfl) (by exact rfl) (by exact rfl) (by omega) (by omega) fun vo hvo => ?_
  rw [made1 rfl]
  repeat' first
    | refine k_then ?_
    | refine c_seq ?_
    | refine c_region ?_
    | refine s_nil ?_
    | refine s_move (by exact rfl) (by exact rfl) ?_
    | refine s_assign (by exact rfl) (by exact rfl) ?_
    | refine s_fa (by exact rfl) (by exact rfl) ?_
    | refine s_ld_box (by exact rfl) (by exact rfl) (by exact .tail _ (.head _)) (by exact rfl) ?_
    | refine s_len (by exact rfl) (by exact rfl) (by assumption) ?_
    | refine c_block ?_
  refine c_nils 89 2 n.toNat ?_
  refine c_loop (fun x : Nat × List Value => x.1 ≤ es.length ∧ x.2.length = n.toNat) (fun x => [(3, vo), (10, v), (11, .int .i64 (es.length : Int)), (12, .int .i64 (x.1 : Int))]) (fun x => [rowHP vo 87 1 n.toNat x.2, starHP (kids rowA x.2 (arcsL n.toNat (tn (es.take x.1))))]) (fun x => es.length - x.1) (0, List.replicate n.toNat (.slice none 0 0)) [1, 0] ⟨by omega, by simp⟩ ?_ ⟨rfl, rfl, rfl, rfl, trivial⟩ ?_
  · show _ = some [_, starHP (kids rowA _ (arcsL n.toNat []))]
    rw [arcs_zero, kids_nils]
    rfl
  rintro ⟨k, hs0⟩ ⟨hk, hl0⟩
  dsimp only at hk hl0 ⊢
  by_cases hlt : k < es.length
  · obtain ⟨e, he⟩ : ∃ e, es[k]? = some e := ⟨_, List.getElem?_eq_getElem hlt⟩
    have hE := esV_at he
    obtain ⟨q1, q2, q3, -, -⟩ := hR.ok e (List.mem_of_getElem? he)
    have hsn := arcs_snoc (N := n.toNat) (l := tn (es.take k)) (u := e.1.toNat) (v := e.2.1.toNat) (by omega) (by omega) (by omega)
    rw [← tn_take he, tn_length, List.length_take, Nat.min_eq_left (by omega)] at hsn
    generalize hls : arcsL n.toNat (tn (es.take k)) = ls at *
    have hb : ∀ u, (ab (tn (es.take k)) u).length ≤ 4194304 := fun u => by
      have := ab_length (tn (es.take k)) u
      have h2 := hR.many
      rw [tn_length, List.length_take] at this
      omega
    repeat' first
      | refine k_then ?_
      | refine c_seq ?_
      | refine c_region ?_
      | refine s_nil ?_
      | refine s_move (by exact rfl) (by exact rfl) ?_
      | refine s_assign (by exact rfl) (by exact rfl) ?_
      | refine s_lss (by exact rfl) (by exact rfl) (by exact rfl) ?_
      | refine s_idx (by exact rfl) (by exact rfl) (by exact rfl) (by assumption) (by first | assumption | omega) ?_
      | refine s_ldk_ro (by exact rfl) (by exact rfl) (by assumption) (by decide) (by assumption) (by exact rfl) ?_
      | refine o_alloc (by exact rfl) (fun b => ?_)
      | refine c_block ?_
      | refine c_skip ?_
      | (refine c_cond_p (by exact rfl) (fun h => ?_) (fun h => ?_) <;> try (exfalso; omega))
    refine o_stk_box (i := 0) (us := eV e) (by exact rfl) (by exact rfl) (by exact rfl) (by exact rfl) (by exact rfl) (by simp [eV, Value.oneCell']) (by simp [Value.cells]) ?_
    repeat' first
      | refine k_then ?_
      | refine c_seq ?_
      | refine s_nil ?_
    refine c_cut (fun hs1 : List Value => hs1.length = n.toNat) (fun _ => [(4, .int .i64 (k : Int)), (5, .pointer (some ⟨b, 0, none⟩)), (3, vo), (10, v), (11, .int .i64 (es.length : Int)), (12, .int .i64 (k : Int))]) (fun hs1 => [boxHP b 47 (eV e), rowHP vo 87 1 n.toNat hs1, starHP (kids rowA hs1 (ls.set e.1.toNat ((ab (tn (es.take k)) e.1.toNat) ++ [(e.2.1.toNat, k)])))]) ?_ fun hs1 hl1 => ?_
    · obtain ⟨hd, hhd⟩ : ∃ hd, hs0[e.1.toNat * 1]? = some hd := ⟨_, List.getElem?_eq_getElem (by omega)⟩
      have hkid : (ls)[e.1.toNat]? = some (ab (tn (es.take k)) e.1.toNat) := by rw [← hls]; exact arcs_get (by omega)
      refine c_take 2 e.1.toNat (by exact rfl) (kids_get (by simpa using hhd) hkid) ?_
      refine p_begin [(0, true), (1, true), (2, true), (3, true), (4, true), (5, true), (6, true), (8, true), (9, true), (10, true), (11, true), .rd 7 12, (13, false), (14, true), (15, false)] [boxHP b 47 (eV e)] (by kernel_rfl) ?_
      repeat' first
        | (refine p_at (by exact rfl) ?_
           first
            | refine t_move (by exact rfl) (by exact rfl) (by exact fun _ h => h.pick [1] (by exact rfl)) ?_
            | refine t_fa (by exact rfl) (by exact rfl) (by exact fun _ h => h.pick [1] (by exact rfl)) ?_
            | refine t_ld_box (by exact rfl) (by exact rfl) (by exact .head _) (by exact rfl) (by exact fun _ h => h.pick [1] (by exact rfl)) ?_
            | refine t_idxi (by exact rfl) (by exact rfl) (by exact rfl) (by assumption) (by first | assumption | omega) (by exact fun _ h => h.pick [1] (by exact rfl)) ?_)
      refine p_buildt (cs := [.int .i64 e.2.1, .int .i64 (k : Int)]) [(0, .int .i64 e.2.1, [.int .i64 e.2.1]), (1, .int .i64 (k : Int), [.int .i64 (k : Int)])] (by exact rfl) (by exact rfl) (by exact rfl) (by simp [Value.cells]) ?_ (by exact fun _ h => h.pick [1] (by exact rfl)) ?_
      · exact rfl
      refine p_rd ?_ ?_
      all_goals
        repeat' first
          | (refine p_at (by exact rfl) ?_
             first
              | refine r_ld_row (by exact rfl) (by exact rfl) (by exact .tail _ (.tail _ (.head _))) (by assumption) (by exact fun _ h => h.pick [1] (by exact rfl)) ?_)
        refine p_mk [.agg #[.int .i64 e.2.1, .int .i64 (k : Int)]] (by exact rfl) rfl (by exact rfl) rfl ?_ ?_ (by simp) (fun w A h => h.pick [2] (by exact rfl)) (fun sx hsx => ?_)
        · simp [Value.cells]
        · simp
        repeat' first
          | (refine p_at (by exact rfl) ?_
             first
              | refine r_ld_row (by exact rfl) (by exact rfl) (by exact .tail _ (.tail _ (.tail _ (.head _)))) (by assumption) (by exact fun _ h => h.pick [2] (by exact rfl)) ?_)
        refine p_append_row (j := 1) (by exact rfl) (by exact rfl) (by exact rfl) (by exact rfl) (by exact rfl) (by exact .head _) (by exact rfl) (by simp [Value.cells, Value.oneCell']) ?_ (fun w v h => h.pick [2] (by exact rfl)) (fun vk hvk => ?_)
        · have := hb e.1.toNat
          simp only [List.length_cons, List.length_nil]
          omega
        repeat' first
          | (refine p_at (by exact rfl) ?_
             first
              | refine t_idxi (by exact rfl) (by exact rfl) (by exact rfl) (by assumption) (by first | assumption | omega) (by exact fun _ h => h.pick [2] (by exact rfl)) ?_)
        refine p_st_row (j := 3) (by exact rfl) (by exact rfl) (by exact rfl) (by exact rfl) hvk.one (by omega) (fun w h => h.pick [2] (by exact rfl)) ?_
        repeat' first
          | refine p_nil ?_
        refine c_pick [1, 1, 1, 1] (by exact rfl) ?_
        have e1 : rowHP vk 89 2 ((ab (tn (es.take k)) e.1.toNat).length + 1) (aV (ab (tn (es.take k)) e.1.toNat) ++ [Value.int .i64 e.2.1, Value.int .i64 (k : Int)]) = rowA vk ((ab (tn (es.take k)) e.1.toNat) ++ [(e.2.1.toNat, k)]) := by
          rw [show (e.2.1 : Int) = ((e.2.1.toNat : Nat) : Int) from by omega]
          simp [rowA, aV, List.flatMap_append]
        refine c_give 2 e.1.toNat (by exact rfl) (by simp [kids, hl0, ← hls, arcsL]; omega) ?_
        refine cut_end (hs0.set e.1.toNat vk) [0, 0, 0] ?_ ⟨rfl, rfl, rfl, rfl, rfl, rfl, trivial⟩ (by simpa using hl0)
        rw [← kids_set (x := empHP), ← e1, Nat.mul_one]
        rfl
    repeat' first
      | refine k_then ?_
    refine c_cut (fun hs1 : List Value => hs1.length = n.toNat) (fun _ => [(4, .int .i64 (k : Int)), (5, .pointer (some ⟨b, 0, none⟩)), (3, vo), (10, v), (11, .int .i64 (es.length : Int)), (12, .int .i64 (k : Int))]) (fun hs1 => [boxHP b 47 (eV e), rowHP vo 87 1 n.toNat hs1, starHP (kids rowA hs1 ((ls.set e.1.toNat ((ab (tn (es.take k)) e.1.toNat) ++ [(e.2.1.toNat, k)])).set e.2.1.toNat ((ab (tn (es.take k)) e.2.1.toNat) ++ [(e.1.toNat, k)])))]) ?_ fun hs2 hl2 => ?_
    · obtain ⟨hd, hhd⟩ : ∃ hd, hs1[e.2.1.toNat * 1]? = some hd := ⟨_, List.getElem?_eq_getElem (by omega)⟩
      have hkid : (ls.set e.1.toNat ((ab (tn (es.take k)) e.1.toNat) ++ [(e.2.1.toNat, k)]))[e.2.1.toNat]? = some (ab (tn (es.take k)) e.2.1.toNat) := by rw [List.getElem?_set_ne (by omega), ← hls]; exact arcs_get (by omega)
      refine c_take 2 e.2.1.toNat (by exact rfl) (kids_get (by simpa using hhd) hkid) ?_
      refine p_begin [(0, true), (1, true), (2, true), (3, true), (4, true), (5, true), (6, true), (8, true), (9, true), (10, true), (11, true), .rd 7 12, (13, false), (14, true), (15, false)] [boxHP b 47 (eV e)] (by kernel_rfl) ?_
      repeat' first
        | (refine p_at (by exact rfl) ?_
           first
            | refine t_move (by exact rfl) (by exact rfl) (by exact fun _ h => h.pick [1] (by exact rfl)) ?_
            | refine t_fa (by exact rfl) (by exact rfl) (by exact fun _ h => h.pick [1] (by exact rfl)) ?_
            | refine t_ld_box (by exact rfl) (by exact rfl) (by exact .head _) (by exact rfl) (by exact fun _ h => h.pick [1] (by exact rfl)) ?_
            | refine t_idxi (by exact rfl) (by exact rfl) (by exact rfl) (by assumption) (by first | assumption | omega) (by exact fun _ h => h.pick [1] (by exact rfl)) ?_)
      refine p_buildt (cs := [.int .i64 e.1, .int .i64 (k : Int)]) [(0, .int .i64 e.1, [.int .i64 e.1]), (1, .int .i64 (k : Int), [.int .i64 (k : Int)])] (by exact rfl) (by exact rfl) (by exact rfl) (by simp [Value.cells]) ?_ (by exact fun _ h => h.pick [1] (by exact rfl)) ?_
      · exact rfl
      refine p_rd ?_ ?_
      all_goals
        repeat' first
          | (refine p_at (by exact rfl) ?_
             first
              | refine r_ld_row (by exact rfl) (by exact rfl) (by exact .tail _ (.tail _ (.head _))) (by assumption) (by exact fun _ h => h.pick [1] (by exact rfl)) ?_)
        refine p_mk [.agg #[.int .i64 e.1, .int .i64 (k : Int)]] (by exact rfl) rfl (by exact rfl) rfl ?_ ?_ (by simp) (fun w A h => h.pick [2] (by exact rfl)) (fun sx hsx => ?_)
        · simp [Value.cells]
        · simp
        repeat' first
          | (refine p_at (by exact rfl) ?_
             first
              | refine r_ld_row (by exact rfl) (by exact rfl) (by exact .tail _ (.tail _ (.tail _ (.head _)))) (by assumption) (by exact fun _ h => h.pick [2] (by exact rfl)) ?_)
        refine p_append_row (j := 1) (by exact rfl) (by exact rfl) (by exact rfl) (by exact rfl) (by exact rfl) (by exact .head _) (by exact rfl) (by simp [Value.cells, Value.oneCell']) ?_ (fun w v h => h.pick [2] (by exact rfl)) (fun vk hvk => ?_)
        · have := hb e.2.1.toNat
          simp only [List.length_cons, List.length_nil]
          omega
        repeat' first
          | (refine p_at (by exact rfl) ?_
             first
              | refine t_idxi (by exact rfl) (by exact rfl) (by exact rfl) (by assumption) (by first | assumption | omega) (by exact fun _ h => h.pick [2] (by exact rfl)) ?_)
        refine p_st_row (j := 3) (by exact rfl) (by exact rfl) (by exact rfl) (by exact rfl) hvk.one (by omega) (fun w h => h.pick [2] (by exact rfl)) ?_
        repeat' first
          | refine p_nil ?_
        refine c_pick [1, 1, 1, 1] (by exact rfl) ?_
        have e1 : rowHP vk 89 2 ((ab (tn (es.take k)) e.2.1.toNat).length + 1) (aV (ab (tn (es.take k)) e.2.1.toNat) ++ [Value.int .i64 e.1, Value.int .i64 (k : Int)]) = rowA vk ((ab (tn (es.take k)) e.2.1.toNat) ++ [(e.1.toNat, k)]) := by
          rw [show (e.1 : Int) = ((e.1.toNat : Nat) : Int) from by omega]
          simp [rowA, aV, List.flatMap_append]
        refine c_give 2 e.2.1.toNat (by exact rfl) (by simp [kids, hl1, ← hls, arcsL]; omega) ?_
        refine cut_end (hs1.set e.2.1.toNat vk) [0, 0, 0] ?_ ⟨rfl, rfl, rfl, rfl, rfl, rfl, trivial⟩ (by simpa using hl1)
        rw [← kids_set (x := empHP), ← e1, Nat.mul_one]
        rfl
    repeat' first
      | refine k_then ?_
      | refine c_region ?_
      | refine s_nil ?_
      | refine s_move (by exact rfl) (by exact rfl) ?_
      | refine s_add (by exact rfl) (by exact rfl) (by exact rfl) (by omega) ?_
      | refine k_blk ?_
    refine c_round (k + 1, hs2) [1, 1] (by rw [hsn]; rfl) (by exact ⟨rfl, rfl, rfl, rfl, trivial⟩) ⟨by omega, hl2⟩ (by dsimp only; omega)
  · repeat' first
      | refine k_then ?_
      | refine c_seq ?_
      | refine c_region ?_
      | refine s_nil ?_
      | refine s_move (by exact rfl) (by exact rfl) ?_
      | refine s_assign (by exact rfl) (by exact rfl) ?_
      | refine s_lss (by exact rfl) (by exact rfl) (by exact rfl) ?_
      | refine c_exit ?_
      | refine c_ret ?_
      | refine k_then_exit ?_
      | refine k_blk_eq ?_
      | (refine c_cond_p (by exact rfl) (fun h => ?_) (fun h => ?_) <;> try (exfalso; omega))
    obtain rfl : k = es.length := by omega
    refine ret1 [0, 0] rfl rfl rfl ⟨hs0, hl0, ?_⟩
    rw [List.take_length]
end Go.Proofs.Ytkekpgkacjpjnaa
