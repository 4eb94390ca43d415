/- Package graph: what is next to what. -/
import Derived.Test.YtkekpgkacjpjnaaGraph
import Derived.Test.YtkekpgkacjpjnaaPNear
import Derived.Test.YtkekpgkacjpjnaaSort
namespace Go.Sl
open Go Go.RowKit
theorem made1 {z : Value} {z0 : Value} (hz : z.cells = #[z0]) (m : Nat) : (madeCells z.cells (m * 1)).toList = List.replicate m z0 := by
  rw [hz]
  apply List.ext_getElem?
  intro k
  simp only [madeCells, Nat.mul_one, Array.toList_map, Array.toList_range, List.getElem?_map, List.getElem?_replicate]
  by_cases hk : k < m
  · simp [hk, Nat.mod_one]
  · simp [hk]
def rowN (h : Value) (l : List Nat) : HP := rowHP h 3 1 l.length (nV l)
theorem rowN_snoc (h : Value) (l : List Nat) (x : Nat) : rowHP h 3 1 (l.length + 1) (nV l ++ [.int .i64 (x : Int)]) = rowN h (l ++ [x]) := by simp [rowN, nV]
end Go.Sl
namespace Go.Proofs.Ytkekpgkacjpjnaa
open Go.RowKit Go.Sl Fil
set_option maxRecDepth 100000
set_option maxHeartbeats 8000000
set_option linter.unusedVariables false
set_option linter.unusedSimpArgs false
attribute [local irreducible] Code.wp wpList bodyPost wpQuiet Exit.then Exit.inBlock Post wpAnyH wpOp

theorem Near_ok (n : Int) (v : Value) (es : List E) (w : World) (hs : Shp v es.length) (hr : RO w No v (esV es)) (hR : RightG n es) :
    Calls Try.prog 39 #[.agg #[.int .i64 n, v]] w (Post w No fun r L' => ∃ hs : List Value, hs.length = n.toNat ∧ L' = [rowHP r 27 1 n.toNat hs, starHP (kids rowN hs ((List.range n.toNat).map (nearS (tn es))))]) := by
  have hR0 := right_iff.2 hR
  have hm : es.length < 4611686018427387904 := by have := hR.many; omega
  refine enter0 (vs := [_]) Try.func39 rfl Try.ntmps39 rfl ?_
  repeat' first
    | refine k_then ?_
    | refine c_seq ?_
    | refine c_region ?_
    | refine s_nil ?_
    | refine s_assign (by exact rfl) (by exact rfl) ?_
    | refine s_ldk_box (by exact rfl) (by exact rfl) (by exact .head _) (by exact rfl) (by exact rfl) ?_
    | refine o_box (by exact rfl) (by exact rfl) (fun b => ?_)
  refine s_call (by exact rfl) (by exact rfl) (fun w h => Right_ok n v es w hs (ro_old h hr) hm) ?_
  repeat' first
    | refine k_then ?_
    | refine c_seq ?_
    | refine c_region ?_
    | refine s_nil ?_
    | refine s_fa (by exact rfl) (by exact rfl) ?_
    | refine s_ld_box (by exact rfl) (by exact rfl) (by exact .head _) (by exact rfl) ?_
    | refine s_neq (by exact rfl) (by exact rfl) (by exact rfl) ?_
    | refine c_skip ?_
    | (refine c_cond_p (by exact rfl) (fun h => ?_) (fun h => ?_) <;> try (exfalso; omega))
  have hlo := hR.lo
  have hhi := hR.hi
  refine o_make (by exact rfl) (by exact rfl) (by exact rfl) (by omega) (by omega) fun vo hvo => ?_
  rw [made1 rfl]
  repeat' first
    | refine k_then ?_
    | refine c_seq ?_
    | refine c_region ?_
    | refine s_nil ?_
    | refine s_move (by exact rfl) (by exact rfl) ?_
    | refine s_assign (by exact rfl) (by exact rfl) ?_
    | refine s_fa (by exact rfl) (by exact rfl) ?_
    | refine s_ld_box (by exact rfl) (by exact rfl) (by exact .tail _ (.head _)) (by exact rfl) ?_
    | refine s_len (by exact rfl) (by exact rfl) (by assumption) ?_
    | refine c_block ?_
  refine c_nils 3 1 n.toNat ?_
  refine c_loop (fun x : Nat × List Value => x.1 ≤ es.length ∧ x.2.length = n.toNat) (fun x => [(3, vo), (15, v), (16, .int .i64 (es.length : Int)), (17, .int .i64 (x.1 : Int))]) (fun x => [rowHP vo 27 1 n.toNat x.2, starHP (kids rowN x.2 (nears n.toNat (tn (es.take x.1))))]) (fun x => es.length - x.1) (0, List.replicate n.toNat (.slice none 0 0)) [1, 0] ⟨by omega, by simp⟩ ?_ ⟨rfl, rfl, rfl, rfl, trivial⟩ ?_
  · show _ = some [_, starHP (kids rowN _ (nears n.toNat []))]
    rw [nears_zero, kids_nils]
    rfl
  rintro ⟨k, hs0⟩ ⟨hk, hl0⟩
  dsimp only at hk hl0 ⊢
  by_cases hlt : k < es.length
  · obtain ⟨e, he⟩ : ∃ e, es[k]? = some e := ⟨_, List.getElem?_eq_getElem hlt⟩
    have hE := esV_at he
    obtain ⟨q1, q2, q3, -, -⟩ := hR.ok e (List.mem_of_getElem? he)
    have hsn := nears_snoc (N := n.toNat) (l := tn (es.take k)) (u := e.1.toNat) (v := e.2.1.toNat) (by omega) (by omega) (by omega)
    rw [← tn_take he] at hsn
    generalize hls : nears n.toNat (tn (es.take k)) = ls at *
    have hb : ∀ u, (nb (tn (es.take k)) u).length ≤ 4194304 := fun u => by
      have := nb_length (tn (es.take k)) u
      have h2 := hR.many
      simp only [tn, List.length_map, List.length_take] at this
      simp only [tn] at this ⊢
      omega
    repeat' first
      | refine k_then ?_
      | refine c_seq ?_
      | refine c_region ?_
      | refine s_nil ?_
      | refine s_lss (by exact rfl) (by exact rfl) (by exact rfl) ?_
      | refine s_idx (by exact rfl) (by exact rfl) (by exact rfl) (by assumption) (by first | assumption | omega) ?_
      | refine s_ldk_ro (by exact rfl) (by exact rfl) (by assumption) (by decide) (by assumption) (by exact rfl) ?_
      | refine o_alloc (by exact rfl) (fun b => ?_)
      | refine c_block ?_
      | refine c_skip ?_
      | (refine c_cond_p (by exact rfl) (fun h => ?_) (fun h => ?_) <;> try (exfalso; omega))
    refine o_stk_box (i := 0) (us := eV e) (by exact rfl) (by exact rfl) (by exact rfl) (by exact rfl) (by exact rfl) (by simp [eV, Value.oneCell']) (by simp [Value.cells]) ?_
    repeat' first
      | refine k_then ?_
      | refine c_seq ?_
      | refine s_nil ?_
    refine c_cut (fun hs1 : List Value => hs1.length = n.toNat) (fun _ => [(5, .pointer (some ⟨b, 0, none⟩)), (3, vo), (15, v), (16, .int .i64 (es.length : Int)), (17, .int .i64 (k : Int))]) (fun hs1 => [boxHP b 47 (eV e), rowHP vo 27 1 n.toNat hs1, starHP (kids rowN hs1 (ls.set e.1.toNat ((nb (tn (es.take k)) e.1.toNat) ++ [e.2.1.toNat])))]) ?_ fun hs1 hl1 => ?_
    · obtain ⟨hd, hhd⟩ : ∃ hd, hs0[e.1.toNat * 1]? = some hd := ⟨_, List.getElem?_eq_getElem (by omega)⟩
      have hkid : (ls)[e.1.toNat]? = some (nb (tn (es.take k)) e.1.toNat) := by rw [← hls]; exact nears_get (by omega)
      refine c_take 2 e.1.toNat (by exact rfl) (kids_get (by simpa using hhd) hkid) ?_
      refine p_begin [(0, true), (1, true), (2, true), (3, true), (4, true), (5, true), (6, true), (8, true), (9, true), .rd 7 10, (11, false), (12, true), (13, false)] [boxHP b 47 (eV e)] (by kernel_rfl) ?_
      repeat' first
        | (refine p_at (by exact rfl) ?_
           first
            | refine t_move (by exact rfl) (by exact rfl) (by exact fun _ h => h.pick [1] (by exact rfl)) ?_
            | refine t_fa (by exact rfl) (by exact rfl) (by exact fun _ h => h.pick [1] (by exact rfl)) ?_
            | refine t_ld_box (by exact rfl) (by exact rfl) (by exact .head _) (by exact rfl) (by exact fun _ h => h.pick [1] (by exact rfl)) ?_
            | refine t_idxi (by exact rfl) (by exact rfl) (by exact rfl) (by assumption) (by first | assumption | omega) (by exact fun _ h => h.pick [1] (by exact rfl)) ?_)
      refine p_rd ?_ ?_
      all_goals
        repeat' first
          | (refine p_at (by exact rfl) ?_
             first
              | refine r_ld_row (by exact rfl) (by exact rfl) (by exact .tail _ (.tail _ (.head _))) (by assumption) (by exact fun _ h => h.pick [1] (by exact rfl)) ?_)
        refine p_mk [_] (by exact rfl) rfl (by exact rfl) rfl ?_ ?_ (by simp) (fun w A h => h.pick [2] (by exact rfl)) (fun sx hsx => ?_)
        · simp [Value.cells]
        · simp
        repeat' first
          | (refine p_at (by exact rfl) ?_
             first
              | refine r_ld_row (by exact rfl) (by exact rfl) (by exact .tail _ (.tail _ (.tail _ (.head _)))) (by assumption) (by exact fun _ h => h.pick [2] (by exact rfl)) ?_)
        refine p_append_row (j := 1) (by exact rfl) rfl (by exact rfl) (by exact rfl) (by exact rfl) (by exact .head _) (by exact rfl) (by simp [Value.cells, Value.oneCell']) ?_ (fun w v h => h.pick [2] (by exact rfl)) (fun vk hvk => ?_)
        · have := hb e.1.toNat
          simp only [List.length_cons, List.length_nil]
          omega
        repeat' first
          | (refine p_at (by exact rfl) ?_
             first
              | refine t_idxi (by exact rfl) (by exact rfl) (by exact rfl) (by assumption) (by first | assumption | omega) (by exact fun _ h => h.pick [2] (by exact rfl)) ?_)
        refine p_st_row (j := 3) (by exact rfl) (by exact rfl) (by exact rfl) (by exact rfl) hvk.one (by omega) (fun w h => h.pick [2] (by exact rfl)) ?_
        repeat' first
          | refine p_nil ?_
        refine c_pick [1, 1, 1, 1] (by exact rfl) ?_
        have e1 : rowHP vk 3 1 ((nb (tn (es.take k)) e.1.toNat).length + 1) (nV (nb (tn (es.take k)) e.1.toNat) ++ [Value.int .i64 e.2.1]) = rowN vk ((nb (tn (es.take k)) e.1.toNat) ++ [e.2.1.toNat]) := by
          rw [show (e.2.1 : Int) = ((e.2.1.toNat : Nat) : Int) from by omega]
          exact rowN_snoc _ _ _
        refine c_give 2 e.1.toNat (by exact rfl) (by simp [kids, hl0, ← hls, nears]; omega) ?_
        refine cut_end (hs0.set e.1.toNat vk) [0, 0, 0] ?_ ⟨rfl, rfl, rfl, rfl, rfl, trivial⟩ (by simpa using hl0)
        rw [← kids_set (x := empHP), ← e1, Nat.mul_one]
        rfl
    repeat' first
      | refine k_then ?_
    refine c_cut (fun hs1 : List Value => hs1.length = n.toNat) (fun _ => [(5, .pointer (some ⟨b, 0, none⟩)), (3, vo), (15, v), (16, .int .i64 (es.length : Int)), (17, .int .i64 (k : Int))]) (fun hs1 => [boxHP b 47 (eV e), rowHP vo 27 1 n.toNat hs1, starHP (kids rowN hs1 ((ls.set e.1.toNat ((nb (tn (es.take k)) e.1.toNat) ++ [e.2.1.toNat])).set e.2.1.toNat ((nb (tn (es.take k)) e.2.1.toNat) ++ [e.1.toNat])))]) ?_ fun hs2 hl2 => ?_
    · obtain ⟨hd, hhd⟩ : ∃ hd, hs1[e.2.1.toNat * 1]? = some hd := ⟨_, List.getElem?_eq_getElem (by omega)⟩
      have hkid : (ls.set e.1.toNat ((nb (tn (es.take k)) e.1.toNat) ++ [e.2.1.toNat]))[e.2.1.toNat]? = some (nb (tn (es.take k)) e.2.1.toNat) := by rw [List.getElem?_set_ne (by omega), ← hls]; exact nears_get (by omega)
      refine c_take 2 e.2.1.toNat (by exact rfl) (kids_get (by simpa using hhd) hkid) ?_
      refine p_begin [(0, true), (1, true), (2, true), (3, true), (4, true), (5, true), (6, true), (8, true), (9, true), .rd 7 10, (11, false), (12, true), (13, false)] [boxHP b 47 (eV e)] (by kernel_rfl) ?_
      repeat' first
        | (refine p_at (by exact rfl) ?_
           first
            | refine t_move (by exact rfl) (by exact rfl) (by exact fun _ h => h.pick [1] (by exact rfl)) ?_
            | refine t_fa (by exact rfl) (by exact rfl) (by exact fun _ h => h.pick [1] (by exact rfl)) ?_
            | refine t_ld_box (by exact rfl) (by exact rfl) (by exact .head _) (by exact rfl) (by exact fun _ h => h.pick [1] (by exact rfl)) ?_
            | refine t_idxi (by exact rfl) (by exact rfl) (by exact rfl) (by assumption) (by first | assumption | omega) (by exact fun _ h => h.pick [1] (by exact rfl)) ?_)
      refine p_rd ?_ ?_
      all_goals
        repeat' first
          | (refine p_at (by exact rfl) ?_
             first
              | refine r_ld_row (by exact rfl) (by exact rfl) (by exact .tail _ (.tail _ (.head _))) (by assumption) (by exact fun _ h => h.pick [1] (by exact rfl)) ?_)
        refine p_mk [_] (by exact rfl) rfl (by exact rfl) rfl ?_ ?_ (by simp) (fun w A h => h.pick [2] (by exact rfl)) (fun sx hsx => ?_)
        · simp [Value.cells]
        · simp
        repeat' first
          | (refine p_at (by exact rfl) ?_
             first
              | refine r_ld_row (by exact rfl) (by exact rfl) (by exact .tail _ (.tail _ (.tail _ (.head _)))) (by assumption) (by exact fun _ h => h.pick [2] (by exact rfl)) ?_)
        refine p_append_row (j := 1) (by exact rfl) rfl (by exact rfl) (by exact rfl) (by exact rfl) (by exact .head _) (by exact rfl) (by simp [Value.cells, Value.oneCell']) ?_ (fun w v h => h.pick [2] (by exact rfl)) (fun vk hvk => ?_)
        · have := hb e.2.1.toNat
          simp only [List.length_cons, List.length_nil]
          omega
        repeat' first
          | (refine p_at (by exact rfl) ?_
             first
              | refine t_idxi (by exact rfl) (by exact rfl) (by exact rfl) (by assumption) (by first | assumption | omega) (by exact fun _ h => h.pick [2] (by exact rfl)) ?_)
        refine p_st_row (j := 3) (by exact rfl) (by exact rfl) (by exact rfl) (by exact rfl) hvk.one (by omega) (fun w h => h.pick [2] (by exact rfl)) ?_
        repeat' first
          | refine p_nil ?_
        refine c_pick [1, 1, 1, 1] (by exact rfl) ?_
        have e1 : rowHP vk 3 1 ((nb (tn (es.take k)) e.2.1.toNat).length + 1) (nV (nb (tn (es.take k)) e.2.1.toNat) ++ [Value.int .i64 e.1]) = rowN vk ((nb (tn (es.take k)) e.2.1.toNat) ++ [e.1.toNat]) := by
          rw [show (e.1 : Int) = ((e.1.toNat : Nat) : Int) from by omega]
          exact rowN_snoc _ _ _
        refine c_give 2 e.2.1.toNat (by exact rfl) (by simp [kids, hl1, ← hls, nears]; omega) ?_
        refine cut_end (hs1.set e.2.1.toNat vk) [0, 0, 0] ?_ ⟨rfl, rfl, rfl, rfl, rfl, trivial⟩ (by simpa using hl1)
        rw [← kids_set (x := empHP), ← e1, Nat.mul_one]
        rfl
    repeat' first
      | refine k_then ?_
      | refine c_region ?_
      | refine s_nil ?_
      | refine s_move (by exact rfl) (by exact rfl) ?_
      | refine s_add (by exact rfl) (by exact rfl) (by exact rfl) (by omega) ?_
      | refine k_blk ?_
    refine c_round (k + 1, hs2) [1, 1] (by rw [hsn]; rfl) (by exact ⟨rfl, rfl, rfl, rfl, trivial⟩) ⟨by omega, hl2⟩ (by dsimp only; omega)
  · repeat' first
      | refine k_then ?_
      | refine c_seq ?_
      | refine c_region ?_
      | refine s_nil ?_
      | refine s_move (by exact rfl) (by exact rfl) ?_
      | refine s_lss (by exact rfl) (by exact rfl) (by exact rfl) ?_
      | refine s_len (by exact rfl) (by exact rfl) (by assumption) ?_
      | refine c_block ?_
      | refine c_exit ?_
      | refine k_then_exit ?_
      | refine k_blk_eq ?_
      | (refine c_cond_p (by exact rfl) (fun h => ?_) (fun h => ?_) <;> try (exfalso; omega))
    have hkl : k = es.length := by omega
    subst hkl
    rw [List.take_length]
    refine c_loop (fun i : Nat => i ≤ n.toNat) (fun i => [(3, vo), (48, vo), (49, .int .i64 (n.toNat : Int)), (50, .int .i64 (i : Int))]) (fun i => [rowHP vo 27 1 n.toNat hs0, starHP (kids rowN hs0 (sorted n.toNat (tn es) i))]) (fun i => n.toNat - i) 0 [0, 0] (Nat.zero_le _) (by rw [sorted_zero]; rfl) ⟨rfl, rfl, rfl, rfl, trivial⟩ ?_
    intro i hi
    by_cases hlt2 : i < n.toNat
    · obtain ⟨hd, hhd⟩ : ∃ hd, hs0[i * 1]? = some hd := ⟨_, List.getElem?_eq_getElem (by omega)⟩
      have hk1 : (kids rowN hs0 (sorted n.toNat (tn es) i))[i]? = some (rowN hd (nb (tn es) i)) := kids_get (by simpa using hhd) (sorted_get hlt2)
      repeat' first
        | refine k_then ?_
        | refine c_seq ?_
        | refine c_region ?_
        | refine s_nil ?_
        | refine s_move (by exact rfl) (by exact rfl) ?_
        | refine s_assign (by exact rfl) (by exact rfl) ?_
        | refine s_lss (by exact rfl) (by exact rfl) (by exact rfl) ?_
        | refine s_idx (by exact rfl) (by exact rfl) (by exact rfl) (by assumption) (by first | assumption | omega) ?_
        | refine s_ld_row (by exact rfl) (by exact rfl) (by exact .head _) (by assumption) ?_
        | refine c_block ?_
        | refine c_skip ?_
        | (refine c_cond_p (by exact rfl) (fun h => ?_) (fun h => ?_) <;> try (exfalso; omega))
      refine c_take 1 i (by exact rfl) hk1 ?_
      refine s_lend [rowN hd (nb (tn es) i)] _ (by exact rfl) (by exact rfl) (by exact rfl) (fun w S h => nsort_row (sats_mem h.own (.head _)) (by have := nb_length (tn es) i; have h2 := hR.many; simp only [tn, List.length_map] at this; simp only [tn]; omega)) ?_
      rintro _ _ ⟨rfl, rfl⟩
      repeat' first
        | refine k_then ?_
        | refine c_region ?_
        | refine s_nil ?_
        | refine s_move (by exact rfl) (by exact rfl) ?_
        | refine s_add (by exact rfl) (by exact rfl) (by exact rfl) (by omega) ?_
        | refine k_blk ?_
      have e1 : rowHP hd 3 1 (nb (tn es) i).length (nV ((nb (tn es) i).mergeSort fun x y => decide (x ≤ y))) = rowN hd (nearS (tn es) i) := by
        simp [rowN, nearS]
      refine c_give (L := [_, _]) 1 i (by exact rfl) (by rw [List.length_set, kids_length (by simp [sorted, hl0])]; simpa [sorted] using hlt2) ?_
      refine c_round (i + 1) [0, 0] ?_ (by exact ⟨rfl, rfl, rfl, rfl, trivial⟩) (by omega) (by omega)
      rw [sorted_succ hlt2, ← kids_set2 (x := empHP) (by simpa using hhd), ← e1]
      rfl
    · repeat' first
        | refine k_then ?_
        | refine c_seq ?_
        | refine c_region ?_
        | refine s_nil ?_
        | refine s_move (by exact rfl) (by exact rfl) ?_
        | refine s_assign (by exact rfl) (by exact rfl) ?_
        | refine s_lss (by exact rfl) (by exact rfl) (by exact rfl) ?_
        | refine c_exit ?_
        | refine c_ret ?_
        | refine k_then_exit ?_
        | refine k_blk_eq ?_
        | (refine c_cond_p (by exact rfl) (fun h => ?_) (fun h => ?_) <;> try (exfalso; omega))
      obtain rfl : i = n.toNat := by omega
      refine ret1 [0, 0] rfl rfl rfl ⟨hs0, hl0, ?_⟩
      rw [sorted_all]
end Go.Proofs.Ytkekpgkacjpjnaa
