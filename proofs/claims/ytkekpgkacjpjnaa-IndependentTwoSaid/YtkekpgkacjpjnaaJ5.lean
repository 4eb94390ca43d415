/- Of IndependentFull IndependentTwo: part 5: what the walks rest on, contracts of functions and plain lemmas; no condition but those that each states. -/
import Derived.Test.YtkekpgkacjpjnaaJ4
import Derived.ProofKit
import Derived.Deep.Slices
import Derived.Deep.Strs
import Derived.Lib.SmallJoins
import Derived.ChangeSlices
set_option linter.unusedVariables false
set_option linter.unusedSimpArgs false
section
namespace Go.Sl
open Go Go.RowKit
def aV (l : List (Nat × Nat)) : List Value := l.flatMap fun a => [.int .i64 (a.1 : Int), .int .i64 (a.2 : Int)]
def rowA (h : Value) (l : List (Nat × Nat)) : HP := rowHP h 89 2 l.length (aV l)
end Go.Sl
namespace Go.Proofs.Ytkekpgkacjpjnaa
open Go.RowKit Go.Sl Fil
set_option maxRecDepth 100000
set_option maxHeartbeats 8000000
set_option linter.unusedVariables false
set_option linter.unusedSimpArgs false
attribute [local irreducible] Code.wp wpList bodyPost wpQuiet Exit.then Exit.inBlock Post wpAnyH wpOp
theorem arcs_ok (n : Int) (v : Value) (es : List E) (w : World) (hs : Shp v es.length) (hr : RO w No v (esV es)) (hR : RightG n es) :
    Calls Try.prog 65 #[.agg #[.int .i64 n, v]] w (Post w No fun r L' => ∃ hs : List Value, hs.length = n.toNat ∧ L' = [rowHP r 87 1 n.toNat hs, starHP (kids rowA hs (arcsL n.toNat (tn es)))]) := by
  have hm : es.length < 4611686018427387904 := by have := hR.many; omega
  have hlo := hR.lo
  have hhi := hR.hi
  refine enter0 (vs := [_]) Try.func65 rfl Try.ntmps65 rfl ?_
  repeat' first
    | refine k_then ?_
    | refine c_seq ?_
    | refine c_region ?_
    | refine s_nil ?_
    | refine s_assign (by exact rfl) (by exact rfl) ?_
    | refine s_fa (by exact rfl) (by exact rfl) ?_
    | refine s_ld_box (by exact rfl) (by exact rfl) (by exact .head _) (by exact rfl) ?_
    | refine o_box (by exact rfl) (by exact rfl) (fun b => ?_)
  refine o_make (by exact rfl) (by exact rfl) (by exact rfl) (by omega) (by omega) fun vo hvo => ?_
  rw [made1 rfl]
  repeat' first
    | refine k_then ?_
    | refine c_seq ?_
    | refine c_region ?_
    | refine s_nil ?_
    | refine s_move (by exact rfl) (by exact rfl) ?_
    | refine s_assign (by exact rfl) (by exact rfl) ?_
    | refine s_fa (by exact rfl) (by exact rfl) ?_
    | refine s_ld_box (by exact rfl) (by exact rfl) (by exact .tail _ (.head _)) (by exact rfl) ?_
    | refine s_len (by exact rfl) (by exact rfl) (by assumption) ?_
    | refine c_block ?_
  refine c_nils 89 2 n.toNat ?_
  refine c_loop (fun x : Nat × List Value => x.1 ≤ es.length ∧ x.2.length = n.toNat) (fun x => [(3, vo), (10, v), (11, .int .i64 (es.length : Int)), (12, .int .i64 (x.1 : Int))]) (fun x => [rowHP vo 87 1 n.toNat x.2, starHP (kids rowA x.2 (arcsL n.toNat (tn (es.take x.1))))]) (fun x => es.length - x.1) (0, List.replicate n.toNat (.slice none 0 0)) [1, 0] ⟨by omega, by simp⟩ ?_ ⟨rfl, rfl, rfl, rfl, trivial⟩ ?_
  · show _ = some [_, starHP (kids rowA _ (arcsL n.toNat []))]
    rw [arcs_zero, kids_nils]
    rfl
  rintro ⟨k, hs0⟩ ⟨hk, hl0⟩
  dsimp only at hk hl0 ⊢
  by_cases hlt : k < es.length
  · obtain ⟨e, he⟩ : ∃ e, es[k]? = some e := ⟨_, List.getElem?_eq_getElem hlt⟩
    have hE := esV_at he
    obtain ⟨q1, q2, q3, -, -⟩ := hR.ok e (List.mem_of_getElem? he)
    have hsn := arcs_snoc (N := n.toNat) (l := tn (es.take k)) (u := e.1.toNat) (v := e.2.1.toNat) (by omega) (by omega) (by omega)
    rw [← tn_take he, tn_length, List.length_take, Nat.min_eq_left (by omega)] at hsn
    generalize hls : arcsL n.toNat (tn (es.take k)) = ls at *
    have hb : ∀ u, (ab (tn (es.take k)) u).length ≤ 4194304 := fun u => by
      have := ab_length (tn (es.take k)) u
      have h2 := hR.many
      rw [tn_length, List.length_take] at this
      omega
    repeat' first
      | refine k_then ?_
      | refine c_seq ?_
      | refine c_region ?_
      | refine s_nil ?_
      | refine s_move (by exact rfl) (by exact rfl) ?_
      | refine s_assign (by exact rfl) (by exact rfl) ?_
      | refine s_lss (by exact rfl) (by exact rfl) (by exact rfl) ?_
      | refine s_idx (by exact rfl) (by exact rfl) (by exact rfl) (by assumption) (by first | assumption | omega) ?_
      | refine s_ldk_ro (by exact rfl) (by exact rfl) (by assumption) (by decide) (by assumption) (by exact rfl) ?_
      | refine o_alloc (by exact rfl) (fun b => ?_)
      | refine c_block ?_
      | refine c_skip ?_
      | (refine c_cond_p (by exact rfl) (fun h => ?_) (fun h => ?_) <;> try (exfalso; omega))
    refine o_stk_box (i := 0) (us := eV e) (by exact rfl) (by exact rfl) (by exact rfl) (by exact rfl) (by exact rfl) (by simp [eV, Value.oneCell']) (by simp [Value.cells]) ?_
    repeat' first
      | refine k_then ?_
      | refine c_seq ?_
      | refine s_nil ?_
    refine c_cut (fun hs1 : List Value => hs1.length = n.toNat) (fun _ => [(4, .int .i64 (k : Int)), (5, .pointer (some ⟨b, 0, none⟩)), (3, vo), (10, v), (11, .int .i64 (es.length : Int)), (12, .int .i64 (k : Int))]) (fun hs1 => [boxHP b 47 (eV e), rowHP vo 87 1 n.toNat hs1, starHP (kids rowA hs1 (ls.set e.1.toNat ((ab (tn (es.take k)) e.1.toNat) ++ [(e.2.1.toNat, k)])))]) ?_ fun hs1 hl1 => ?_
    · obtain ⟨hd, hhd⟩ : ∃ hd, hs0[e.1.toNat * 1]? = some hd := ⟨_, List.getElem?_eq_getElem (by omega)⟩
      have hkid : (ls)[e.1.toNat]? = some (ab (tn (es.take k)) e.1.toNat) := by rw [← hls]; exact arcs_get (by omega)
      refine c_take 2 e.1.toNat (by exact rfl) (kids_get (by simpa using hhd) hkid) ?_
      refine p_begin [(0, true), (1, true), (2, true), (3, true), (4, true), (5, true), (6, true), (8, true), (9, true), (10, true), (11, true), .rd 7 12, (13, false), (14, true), (15, false)] [boxHP b 47 (eV e)] (by kernel_rfl) ?_
      repeat' first
        | (refine p_at (by exact rfl) ?_
           first
            | refine t_move (by exact rfl) (by exact rfl) (by exact fun _ h => h.pick [1] (by exact rfl)) ?_
            | refine t_fa (by exact rfl) (by exact rfl) (by exact fun _ h => h.pick [1] (by exact rfl)) ?_
            | refine t_ld_box (by exact rfl) (by exact rfl) (by exact .head _) (by exact rfl) (by exact fun _ h => h.pick [1] (by exact rfl)) ?_
            | refine t_idxi (by exact rfl) (by exact rfl) (by exact rfl) (by assumption) (by first | assumption | omega) (by exact fun _ h => h.pick [1] (by exact rfl)) ?_)
      refine p_buildt (cs := [.int .i64 e.2.1, .int .i64 (k : Int)]) [(0, .int .i64 e.2.1, [.int .i64 e.2.1]), (1, .int .i64 (k : Int), [.int .i64 (k : Int)])] (by exact rfl) (by exact rfl) (by exact rfl) (by simp [Value.cells]) ?_ (by exact fun _ h => h.pick [1] (by exact rfl)) ?_
      · exact rfl
      refine p_rd ?_ ?_
      all_goals
        repeat' first
          | (refine p_at (by exact rfl) ?_
             first
              | refine r_ld_row (by exact rfl) (by exact rfl) (by exact .tail _ (.tail _ (.head _))) (by assumption) (by exact fun _ h => h.pick [1] (by exact rfl)) ?_)
        refine p_mk [.agg #[.int .i64 e.2.1, .int .i64 (k : Int)]] (by exact rfl) rfl (by exact rfl) rfl ?_ ?_ (by simp) (fun w A h => h.pick [2] (by exact rfl)) (fun sx hsx => ?_)
        · simp [Value.cells]
        · simp
        repeat' first
          | (refine p_at (by exact rfl) ?_
             first
              | refine r_ld_row (by exact rfl) (by exact rfl) (by exact .tail _ (.tail _ (.tail _ (.head _)))) (by assumption) (by exact fun _ h => h.pick [2] (by exact rfl)) ?_)
        refine p_append_row (j := 1) (by exact rfl) (by exact rfl) (by exact rfl) (by exact rfl) (by exact rfl) (by exact .head _) (by exact rfl) (by simp [Value.cells, Value.oneCell']) ?_ (fun w v h => h.pick [2] (by exact rfl)) (fun vk hvk => ?_)
        · have := hb e.1.toNat
          simp only [List.length_cons, List.length_nil]
          omega
        repeat' first
          | (refine p_at (by exact rfl) ?_
             first
              | refine t_idxi (by exact rfl) (by exact rfl) (by exact rfl) (by assumption) (by first | assumption | omega) (by exact fun _ h => h.pick [2] (by exact rfl)) ?_)
        refine p_st_row (j := 3) (by exact rfl) (by exact rfl) (by exact rfl) (by exact rfl) hvk.one (by omega) (fun w h => h.pick [2] (by exact rfl)) ?_
        repeat' first
          | refine p_nil ?_
        refine c_pick [1, 1, 1, 1] (by exact rfl) ?_
        have e1 : rowHP vk 89 2 ((ab (tn (es.take k)) e.1.toNat).length + 1) (aV (ab (tn (es.take k)) e.1.toNat) ++ [Value.int .i64 e.2.1, Value.int .i64 (k : Int)]) = rowA vk ((ab (tn (es.take k)) e.1.toNat) ++ [(e.2.1.toNat, k)]) := by
          rw [show (e.2.1 : Int) = ((e.2.1.toNat : Nat) : Int) from by omega]
          simp [rowA, aV, List.flatMap_append]
        refine c_give 2 e.1.toNat (by exact rfl) (by simp [kids, hl0, ← hls, arcsL]; omega) ?_
        refine cut_end (hs0.set e.1.toNat vk) [0, 0, 0] ?_ ⟨rfl, rfl, rfl, rfl, rfl, rfl, trivial⟩ (by simpa using hl0)
        rw [← kids_set (x := empHP), ← e1, Nat.mul_one]
        rfl
    repeat' first
      | refine k_then ?_
    refine c_cut (fun hs1 : List Value => hs1.length = n.toNat) (fun _ => [(4, .int .i64 (k : Int)), (5, .pointer (some ⟨b, 0, none⟩)), (3, vo), (10, v), (11, .int .i64 (es.length : Int)), (12, .int .i64 (k : Int))]) (fun hs1 => [boxHP b 47 (eV e), rowHP vo 87 1 n.toNat hs1, starHP (kids rowA hs1 ((ls.set e.1.toNat ((ab (tn (es.take k)) e.1.toNat) ++ [(e.2.1.toNat, k)])).set e.2.1.toNat ((ab (tn (es.take k)) e.2.1.toNat) ++ [(e.1.toNat, k)])))]) ?_ fun hs2 hl2 => ?_
    · obtain ⟨hd, hhd⟩ : ∃ hd, hs1[e.2.1.toNat * 1]? = some hd := ⟨_, List.getElem?_eq_getElem (by omega)⟩
      have hkid : (ls.set e.1.toNat ((ab (tn (es.take k)) e.1.toNat) ++ [(e.2.1.toNat, k)]))[e.2.1.toNat]? = some (ab (tn (es.take k)) e.2.1.toNat) := by rw [List.getElem?_set_ne (by omega), ← hls]; exact arcs_get (by omega)
      refine c_take 2 e.2.1.toNat (by exact rfl) (kids_get (by simpa using hhd) hkid) ?_
      refine p_begin [(0, true), (1, true), (2, true), (3, true), (4, true), (5, true), (6, true), (8, true), (9, true), (10, true), (11, true), .rd 7 12, (13, false), (14, true), (15, false)] [boxHP b 47 (eV e)] (by kernel_rfl) ?_
      repeat' first
        | (refine p_at (by exact rfl) ?_
           first
            | refine t_move (by exact rfl) (by exact rfl) (by exact fun _ h => h.pick [1] (by exact rfl)) ?_
            | refine t_fa (by exact rfl) (by exact rfl) (by exact fun _ h => h.pick [1] (by exact rfl)) ?_
            | refine t_ld_box (by exact rfl) (by exact rfl) (by exact .head _) (by exact rfl) (by exact fun _ h => h.pick [1] (by exact rfl)) ?_
            | refine t_idxi (by exact rfl) (by exact rfl) (by exact rfl) (by assumption) (by first | assumption | omega) (by exact fun _ h => h.pick [1] (by exact rfl)) ?_)
      refine p_buildt (cs := [.int .i64 e.1, .int .i64 (k : Int)]) [(0, .int .i64 e.1, [.int .i64 e.1]), (1, .int .i64 (k : Int), [.int .i64 (k : Int)])] (by exact rfl) (by exact rfl) (by exact rfl) (by simp [Value.cells]) ?_ (by exact fun _ h => h.pick [1] (by exact rfl)) ?_
      · exact rfl
      refine p_rd ?_ ?_
      all_goals
        repeat' first
          | (refine p_at (by exact rfl) ?_
             first
              | refine r_ld_row (by exact rfl) (by exact rfl) (by exact .tail _ (.tail _ (.head _))) (by assumption) (by exact fun _ h => h.pick [1] (by exact rfl)) ?_)
        refine p_mk [.agg #[.int .i64 e.1, .int .i64 (k : Int)]] (by exact rfl) rfl (by exact rfl) rfl ?_ ?_ (by simp) (fun w A h => h.pick [2] (by exact rfl)) (fun sx hsx => ?_)
        · simp [Value.cells]
        · simp
        repeat' first
          | (refine p_at (by exact rfl) ?_
             first
              | refine r_ld_row (by exact rfl) (by exact rfl) (by exact .tail _ (.tail _ (.tail _ (.head _)))) (by assumption) (by exact fun _ h => h.pick [2] (by exact rfl)) ?_)
        refine p_append_row (j := 1) (by exact rfl) (by exact rfl) (by exact rfl) (by exact rfl) (by exact rfl) (by exact .head _) (by exact rfl) (by simp [Value.cells, Value.oneCell']) ?_ (fun w v h => h.pick [2] (by exact rfl)) (fun vk hvk => ?_)
        · have := hb e.2.1.toNat
          simp only [List.length_cons, List.length_nil]
          omega
        repeat' first
          | (refine p_at (by exact rfl) ?_
             first
              | refine t_idxi (by exact rfl) (by exact rfl) (by exact rfl) (by assumption) (by first | assumption | omega) (by exact fun _ h => h.pick [2] (by exact rfl)) ?_)
        refine p_st_row (j := 3) (by exact rfl) (by exact rfl) (by exact rfl) (by exact rfl) hvk.one (by omega) (fun w h => h.pick [2] (by exact rfl)) ?_
        repeat' first
          | refine p_nil ?_
        refine c_pick [1, 1, 1, 1] (by exact rfl) ?_
        have e1 : rowHP vk 89 2 ((ab (tn (es.take k)) e.2.1.toNat).length + 1) (aV (ab (tn (es.take k)) e.2.1.toNat) ++ [Value.int .i64 e.1, Value.int .i64 (k : Int)]) = rowA vk ((ab (tn (es.take k)) e.2.1.toNat) ++ [(e.1.toNat, k)]) := by
          rw [show (e.1 : Int) = ((e.1.toNat : Nat) : Int) from by omega]
          simp [rowA, aV, List.flatMap_append]
        refine c_give 2 e.2.1.toNat (by exact rfl) (by simp [kids, hl1, ← hls, arcsL]; omega) ?_
        refine cut_end (hs1.set e.2.1.toNat vk) [0, 0, 0] ?_ ⟨rfl, rfl, rfl, rfl, rfl, rfl, trivial⟩ (by simpa using hl1)
        rw [← kids_set (x := empHP), ← e1, Nat.mul_one]
        rfl
    repeat' first
      | refine k_then ?_
      | refine c_region ?_
      | refine s_nil ?_
      | refine s_move (by exact rfl) (by exact rfl) ?_
      | refine s_add (by exact rfl) (by exact rfl) (by exact rfl) (by omega) ?_
      | refine k_blk ?_
    refine c_round (k + 1, hs2) [1, 1] (by rw [hsn]; rfl) (by exact ⟨rfl, rfl, rfl, rfl, trivial⟩) ⟨by omega, hl2⟩ (by dsimp only; omega)
  · repeat' first
      | refine k_then ?_
      | refine c_seq ?_
      | refine c_region ?_
      | refine s_nil ?_
      | refine s_move (by exact rfl) (by exact rfl) ?_
      | refine s_assign (by exact rfl) (by exact rfl) ?_
      | refine s_lss (by exact rfl) (by exact rfl) (by exact rfl) ?_
      | refine c_exit ?_
      | refine c_ret ?_
      | refine k_then_exit ?_
      | refine k_blk_eq ?_
      | (refine c_cond_p (by exact rfl) (fun h => ?_) (fun h => ?_) <;> try (exfalso; omega))
    obtain rfl : k = es.length := by omega
    refine ret1 [0, 0] rfl rfl rfl ⟨hs0, hl0, ?_⟩
    rw [List.take_length]
end Go.Proofs.Ytkekpgkacjpjnaa
end
section
namespace Go.Sl
open Go Go.RowKit
theorem aV_at {l : List (Nat × Nat)} {j : Nat} {a : Nat × Nat} (h : l[j]? = some a) : ((aV l).drop (j * 2)).take 2 = [.int .i64 (a.1 : Int), .int .i64 (a.2 : Int)] := by
  induction l generalizing j with
  | nil => simp at h
  | cons x l ih =>
    cases j with
    | zero =>
      obtain rfl : x = a := by simpa using h
      rfl
    | succ j =>
      have := ih (j := j) (by simpa using h)
      rw [show (j + 1) * 2 = j * 2 + 2 from by omega]
      exact this
end Go.Sl
namespace Go.Proofs.Ytkekpgkacjpjnaa
open Go.RowKit Go.Sl Fil
set_option maxRecDepth 100000
set_option maxHeartbeats 8000000
set_option linter.unusedVariables false
set_option linter.unusedSimpArgs false
attribute [local irreducible] Code.wp wpList bodyPost wpQuiet Exit.then Exit.inBlock Post wpAnyH wpOp
theorem Components_ok (n : Int) (v : Value) (es : List E) (w : World) (hs : Shp v es.length) (hr : RO w No v (esV es)) (hR : RightG n es) :
    Calls Try.prog 44 #[.agg #[.int .i64 n, v]] w (Post w No fun r L' => ∃ (met : List Bool) (out : List Nat) (lab : Nat → Nat) (hr : List Value), Bfs n.toNat (nb (tn es)) n.toNat met out lab [] ∧ hr.length = (compsL n.toNat n.toNat met lab).length ∧ L' = [rowHP r 27 1 (compsL n.toNat n.toNat met lab).length hr, starHP (kids rowN hr (compsL n.toNat n.toNat met lab))]) := by
  have hR0 := right_iff.2 hR
  have hm : es.length < 4611686018427387904 := by have := hR.many; omega
  have hlo := hR.lo
  have hhi := hR.hi
  have hA := hR.good.adj
  refine enter0 (vs := [_]) Try.func44 rfl Try.ntmps44 rfl ?_
  repeat' first
    | refine k_then ?_
    | refine c_seq ?_
    | refine c_region ?_
    | refine s_nil ?_
    | refine s_assign (by exact rfl) (by exact rfl) ?_
    | refine s_ldk_box (by exact rfl) (by exact rfl) (by exact .head _) (by exact rfl) (by exact rfl) ?_
    | refine o_box (by exact rfl) (by exact rfl) (fun b => ?_)
  refine s_call (by exact rfl) (by exact rfl) (fun w h => Right_ok n v es w hs (ro_old h hr) hm) ?_
  repeat' first
    | refine k_then ?_
    | refine c_seq ?_
    | refine c_region ?_
    | refine s_nil ?_
    | refine s_neq (by exact rfl) (by exact rfl) (by exact rfl) ?_
    | refine s_ldk_box (by exact rfl) (by exact rfl) (by exact .head _) (by exact rfl) (by exact rfl) ?_
    | refine c_skip ?_
    | (refine c_cond_p (by exact rfl) (fun h => ?_) (fun h => ?_) <;> try (exfalso; omega))
  refine o_call (by exact rfl) (by exact rfl) (fun w h => arcs_ok n v es w hs (ro_old h hr) hR) ?_
  rintro va _ ⟨ha, hla, rfl⟩
  refine know_row (v := va) (.head _) fun hva _ => ?_
  repeat' first
    | refine k_then ?_
    | refine c_seq ?_
    | refine c_region ?_
    | refine s_nil ?_
    | refine s_assign (by exact rfl) (by exact rfl) ?_
    | refine s_fa (by exact rfl) (by exact rfl) ?_
    | refine s_ld_box (by exact rfl) (by exact rfl) (by exact .tail _ (.tail _ (.head _))) (by exact rfl) ?_
  refine o_make (by exact rfl) (by exact rfl) (by exact rfl) (by omega) (by omega) fun vm hvm => ?_
  rw [made1 (z := .bool false) rfl]
  repeat' first
    | refine k_then ?_
    | refine c_seq ?_
    | refine c_region ?_
    | refine s_nil ?_
    | refine s_move (by exact rfl) (by exact rfl) ?_
    | refine s_assign (by exact rfl) (by exact rfl) ?_
    | refine s_fa (by exact rfl) (by exact rfl) ?_
    | refine s_ld_box (by exact rfl) (by exact rfl) (by exact .tail _ (.tail _ (.tail _ (.head _)))) (by exact rfl) ?_
    | refine c_block ?_
  have hal : ∀ x, (ab (tn es) x).length ≤ 4194304 := fun x => by
    have h1 := ab_length (tn es) x
    have h2 := hR.many
    rw [tn_length] at h1
    omega
  generalize hl : tn es = l at *
  generalize hN : n.toNat = N at *
  have hnN : n = (N : Int) := by omega
  subst hnN
  refine c_nil 27 1 ?_
  refine c_star0 ?_
  refine c_loop (fun x : Nat × List Bool × List Nat × (Nat → Nat) × Value × List Value => x.1 ≤ N ∧ Bfs N (nb l) x.1 x.2.1 x.2.2.1 x.2.2.2.1 [] ∧ x.2.2.2.2.2.length = (compsL N x.1 x.2.1 x.2.2.2.1).length ∧ ∀ u, x.2.1.getD u false = true → x.2.2.2.1 u < x.1) (fun x => [(2, x.2.2.2.2.1), (3, va), (4, vm), (19, .int .i64 (N : Int)), (20, .int .i64 (x.1 : Int))])
    (fun x => [rowHP vm 4 1 N (bV x.2.1), rowHP x.2.2.2.2.1 27 1 (compsL N x.1 x.2.1 x.2.2.2.1).length x.2.2.2.2.2, starHP (kids rowN x.2.2.2.2.2 (compsL N x.1 x.2.1 x.2.2.2.1)), rowHP va 87 1 N ha, starHP (kids rowA ha (arcsL N l))]) (fun x => N - x.1) (0, List.replicate N false, List.replicate N 0, (fun _ => 0), .slice none 0 0, []) [2, 1, 0, 0, 0] ⟨Nat.zero_le _, Bfs.init N (nb l), rfl, ?_⟩ ?_ ⟨rfl, rfl, rfl, rfl, rfl, trivial⟩ ?_
  · intro u hu
    simp only [List.getD_eq_getElem?_getD, List.getElem?_replicate] at hu
    split at hu <;> simp at hu
  · simp only [bV, List.map_replicate]
    rfl
  rintro ⟨i, met, out, lab, vr, hr0⟩ ⟨hi, hB, hhr, hLt⟩
  dsimp only at hi hB hhr hLt ⊢
  by_cases hlt : i < N
  · have hmi := bV_get (l := met) (k := i) (by rw [hB.lm]; exact hlt)
    cases hmet : met.getD i false
    · rw [hmet] at hmi
      repeat' first
        | refine k_then ?_
        | refine c_seq ?_
        | refine c_region ?_
        | refine s_nil ?_
        | refine s_move (by exact rfl) (by exact rfl) ?_
        | refine s_assign (by exact rfl) (by exact rfl) ?_
        | refine s_lss (by exact rfl) (by exact rfl) (by exact rfl) ?_
        | refine s_idx (by exact rfl) (by exact rfl) (by exact rfl) (by assumption) (by first | assumption | omega) ?_
        | refine s_ld_row (by exact rfl) (by exact rfl) (by exact .head _) (by assumption) ?_
        | refine c_block ?_
        | refine c_skip ?_
        | (refine c_cond_p (by exact rfl) (fun h => ?_) (fun h => ?_) <;> try (exfalso; omega))
        | refine c_cond_f (by exact rfl) ?_
      refine o_st_row (i := 0) (by exact rfl) (by exact rfl) (by exact rfl) rfl (by omega) ?_
      repeat' first
        | refine k_then ?_
        | refine c_seq ?_
        | refine c_region ?_
        | refine s_nil ?_
        | refine s_move (by exact rfl) (by exact rfl) ?_
      rw [bV_set]
      refine o_mk [.int .i64 (i : Int)] (by exact rfl) (by exact rfl) rfl ?_ ?_ (by simp) fun vl0 hvl0 => ?_
      · simp [Value.cells]
      · simp
      repeat' first
        | refine k_then ?_
        | refine c_seq ?_
        | refine c_region ?_
        | refine s_nil ?_
        | refine s_assign (by exact rfl) (by exact rfl) ?_
        | refine c_block ?_
      have hBs := hB.start hlt hmet
      have hP := Part.start hlt hB.lm hLt
      have hC := comps_step (N := N) (lab := lab) hmet hB.below
      generalize hcs : compsL N i met lab = cs at *
      clear hcs
      refine c_loop (fun x : Value × List Nat × Nat × List Bool × List Nat × (Nat → Nat) => x.2.2.1 ≤ x.2.1.length ∧ Bfs N (nb l) i x.2.2.2.1 x.2.2.2.2.1 x.2.2.2.2.2 (x.2.1.drop x.2.2.1) ∧ Part N i x.2.2.2.1 x.2.2.2.2.2 x.2.1 ∧ compsL N i x.2.2.2.1 x.2.2.2.2.2 = cs ∧ x.2.2.2.1.getD i false = true ∧ x.2.2.2.2.2 i = i)
        (fun x => [(2, vr), (3, va), (4, vm), (5, .int .i64 (i : Int)), (6, x.1), (7, .int .i64 (x.2.2.1 : Int)), (19, .int .i64 (N : Int)), (20, .int .i64 (i : Int))])
        (fun x => [rowHP x.1 3 1 x.2.1.length (nV x.2.1), rowHP vm 4 1 N (bV x.2.2.2.1), rowHP vr 27 1 cs.length hr0, starHP (kids rowN hr0 cs), rowHP va 87 1 N ha, starHP (kids rowA ha (arcsL N l))])
        (fun x => 2 * unmet x.2.2.2.1 + (x.2.1.length - x.2.2.1)) (vl0, [i], 0, met.set i true, out, fun x => if x = i then i else lab x) [0, 0, 0, 0, 0, 0] ⟨Nat.zero_le _, hBs, hP, hC, hBs.line_met i (by simp), by simp⟩ (by exact rfl) ⟨rfl, rfl, rfl, rfl, rfl, rfl, rfl, rfl, trivial⟩ ?_
      clear hBs hP hC hmi hmet hB hvl0 hLt
      clear vl0 out lab met
      rintro ⟨vp, part, at0, met, out, lab⟩ ⟨hat, hB, hP, hC, hmi, hli⟩
      dsimp only at hat hB hP hC hmi hli ⊢
      refine know_row (v := vp) (.head _) fun hvp _ => ?_
      have hpl := hP.length_le
      by_cases hal0 : at0 < part.length
      · obtain ⟨x, hx⟩ : ∃ x, part[at0]? = some x := ⟨_, List.getElem?_eq_getElem hal0⟩
        have hdrop : part.drop at0 = x :: part.drop (at0 + 1) := by
          obtain ⟨h1, h2⟩ := List.getElem?_eq_some_iff.1 hx
          rw [List.drop_eq_getElem_cons h1, h2]
        rw [hdrop] at hB
        have hxN := hB.line_lt x (by simp)
        have hAx := hal x
        have hx0 : (nV part)[at0 * 1]? = some (.int .i64 (x : Int)) := by simp [nV, hx]
        obtain ⟨hd, hhd⟩ : ∃ hd, ha[x * 1]? = some hd := ⟨_, List.getElem?_eq_getElem (by omega)⟩
        have hK : rowHP hd 89 2 (ab l x).length (aV (ab l x)) ∈ kids rowA ha (arcsL N l) := kids_mem (f := rowA) (k := x) (by simpa using hhd) (arcs_get hxN)
        refine know_kid (Ks := kids rowA ha (arcsL N l)) (.tail _ (.tail _ (.tail _ (.tail _ (.tail _ (.head _)))))) hK fun hhs _ => ?_
        repeat' first
          | refine k_then ?_
          | refine c_seq ?_
          | refine c_region ?_
          | refine s_nil ?_
          | refine s_move (by exact rfl) (by exact rfl) ?_
          | refine s_lss (by exact rfl) (by exact rfl) (by exact rfl) ?_
          | refine s_len (by exact rfl) (by exact rfl) (by assumption) ?_
          | refine s_idx (by exact rfl) (by exact rfl) (by exact rfl) (by assumption) (by first | assumption | omega) ?_
          | refine s_ld_row (by exact rfl) (by exact rfl) (by first | exact .head _ | exact .tail _ (.tail _ (.tail _ (.tail _ (.head _))))) (by assumption) ?_
          | refine c_block ?_
          | refine c_skip ?_
          | (refine c_cond_p (by exact rfl) (fun h => ?_) (fun h => ?_) <;> try (exfalso; omega))
        refine c_loop (fun y : Nat × Value × List Nat × List Bool × List Nat × (Nat → Nat) => y.1 ≤ (ab l x).length ∧ Bfs N (nb l) i y.2.2.2.1 y.2.2.2.2.1 y.2.2.2.2.2 (x :: y.2.2.1.drop (at0 + 1)) ∧ Seen (nb l) i y.2.2.2.1 y.2.2.2.2.1 y.2.2.2.2.2 x y.1 ∧ Part N i y.2.2.2.1 y.2.2.2.2.2 y.2.2.1 ∧ compsL N i y.2.2.2.1 y.2.2.2.2.2 = cs ∧ y.2.2.2.1.getD i false = true ∧ y.2.2.2.2.2 i = i ∧ at0 < y.2.2.1.length ∧ 2 * unmet y.2.2.2.1 + y.2.2.1.length ≤ 2 * unmet met + part.length)
          (fun y => [(2, vr), (3, va), (4, vm), (5, .int .i64 (i : Int)), (6, y.2.1), (7, .int .i64 (at0 : Int)), (19, .int .i64 (N : Int)), (20, .int .i64 (i : Int)), (44, hd), (45, .int .i64 ((ab l x).length : Int)), (46, .int .i64 (y.1 : Int))])
          (fun y => [rowHP y.2.1 3 1 y.2.2.1.length (nV y.2.2.1), rowHP vm 4 1 N (bV y.2.2.2.1), rowHP vr 27 1 cs.length hr0, starHP (kids rowN hr0 cs), rowHP va 87 1 N ha, starHP (kids rowA ha (arcsL N l))])
          (fun y => (ab l x).length - y.1) (0, vp, part, met, out, lab) [0, 0, 0, 0, 0, 0] ⟨Nat.zero_le _, hB, fun u hu => by simp at hu, hP, hC, hmi, hli, hal0, Nat.le_refl _⟩ (by exact rfl) ⟨rfl, rfl, rfl, rfl, rfl, rfl, rfl, rfl, rfl, rfl, rfl, trivial⟩ ?_
        clear hB hP hC hx0 hvp hmi hli
        rintro ⟨j, vq, part2, met2, out2, lab2⟩ ⟨hj, hB, hS, hP, hC, hmi, hli, hat2, hM2⟩
        dsimp only at hj hB hS hP hC hmi hli hat2 hM2 ⊢
        refine know_row (v := vq) (.head _) fun hvq _ => ?_
        have hpl2 := hP.length_le
        by_cases hjl : j < (ab l x).length
        · obtain ⟨a, hja⟩ : ∃ a, (ab l x)[j]? = some a := ⟨_, List.getElem?_eq_getElem hjl⟩
          have hu : (nb l x)[j]? = some a.1 := by rw [← ab_fst, List.getElem?_map, hja]; rfl
          have hun := hA.lt x hxN a.1 (List.mem_of_getElem? hu)
          have hju := aV_at hja
          have hmu := bV_get (l := met2) (k := a.1) (by rw [hB.lm]; exact hun)
          cases hmet : met2.getD a.1 false
          · rw [hmet] at hmu
            have hum := unmet_set (by rw [hB.lm]; exact hun) hmet
            obtain ⟨hB2, hS2⟩ := hB.new hA hS hu hmet
            have hP2 := hP.new hun hB.lm hmet
            have hC2 := comps_step (N := N) (lab := lab2) hmet hB.below
            repeat' first
              | refine k_then ?_
              | refine c_seq ?_
              | refine c_region ?_
              | refine s_nil ?_
              | refine s_lss (by exact rfl) (by exact rfl) (by exact rfl) ?_
              | refine s_idx (by exact rfl) (by exact rfl) (by exact rfl) (by assumption) (by first | assumption | omega) ?_
              | refine s_ldk_kid (by exact rfl) (by exact rfl) (by assumption) (by exact .tail _ (.tail _ (.tail _ (.tail _ (.tail _ (.head _)))))) (by decide) (by assumption) (by exact rfl) ?_
              | refine o_alloc (by exact rfl) (fun b => ?_)
              | refine c_block ?_
              | refine c_skip ?_
              | (refine c_cond_p (by exact rfl) (fun h => ?_) (fun h => ?_) <;> try (exfalso; omega))
            refine o_stk_box (i := 0) (us := [.int .i64 (a.1 : Int), .int .i64 (a.2 : Int)]) (by exact rfl) (by exact rfl) (by exact rfl) (by exact rfl) (by exact rfl) (by simp [Value.oneCell']) (by simp [Value.cells]) ?_
            repeat' first
              | refine k_then ?_
              | refine c_seq ?_
              | refine c_region ?_
              | refine s_nil ?_
              | refine s_move (by exact rfl) (by exact rfl) ?_
              | refine s_fa (by exact rfl) (by exact rfl) ?_
              | refine s_ld_box (by exact rfl) (by exact rfl) (by exact .head _) (by exact rfl) ?_
              | refine s_not (by exact rfl) (by exact rfl) ?_
              | refine s_idx (by exact rfl) (by exact rfl) (by exact rfl) (by assumption) (by first | assumption | omega) ?_
              | refine s_ld_row (by exact rfl) (by exact rfl) (by exact .tail _ (.tail _ (.head _))) (by assumption) ?_
              | refine c_cond_t (by exact rfl) ?_
            refine o_st_row (i := 2) (by exact rfl) (by exact rfl) (by exact rfl) rfl (by omega) ?_
            repeat' first
              | refine k_then ?_
              | refine c_region ?_
              | refine s_nil ?_
              | refine s_move (by exact rfl) (by exact rfl) ?_
              | refine s_fa (by exact rfl) (by exact rfl) ?_
              | refine s_ld_box (by exact rfl) (by exact rfl) (by exact .head _) (by exact rfl) ?_
            rw [bV_set]
            refine o_mk [.int .i64 (a.1 : Int)] (by exact rfl) (by exact rfl) rfl ?_ ?_ (by simp) fun vt hvt => ?_
            · simp [Value.cells]
            · simp
            skip
            refine o_append_row (i := 2) (by exact rfl) (by exact rfl) (by exact rfl) (by exact rfl) (by exact .head _) (by exact rfl) (by simp [Value.cells, Value.oneCell']) ?_ fun vl2 hvl2 => ?_
            · omega
            repeat' first
              | refine k_then ?_
              | refine c_region ?_
              | refine s_nil ?_
              | refine s_move (by exact rfl) (by exact rfl) ?_
              | refine s_assign (by exact rfl) (by exact rfl) ?_
              | refine s_add (by exact rfl) (by exact rfl) (by exact rfl) (by omega) ?_
              | refine k_blk ?_
            refine c_round (j + 1, vl2, part2 ++ [a.1], met2.set a.1 true, out2.set a.1 (out2.getD x 0 + 1), fun z => if z = a.1 then i else lab2 z) [2, 2, 2, 2, 2, 2] ?_ (by exact ⟨rfl, rfl, rfl, rfl, rfl, rfl, rfl, rfl, rfl, rfl, rfl, trivial⟩) ⟨by omega, ?_, hS2, hP2, by rw [hC2]; exact hC, ?_, ?_, ?_, ?_⟩ (by dsimp only; omega)
            · show pick [_, _, _, _, _, _, _, _] [2, 2, 2, 2, 2, 2] = some [_, _, _, _, _, _]
              have e1 : rowHP vl2 3 1 (part2.length + 1) (nV part2 ++ [Value.int .i64 (a.1 : Int)]) = rowHP vl2 3 1 (part2 ++ [a.1]).length (nV (part2 ++ [a.1])) := by simp [nV]
              rw [← e1]
              rfl
            · dsimp only
              rw [List.drop_append_of_le_length (by omega)]
              exact hB2
            · dsimp only
              rw [getD_set]
              split
              · rfl
              · exact hmi
            · dsimp only
              split
              · rfl
              · exact hli
            · simp; omega
            · simp only [List.length_append, List.length_singleton]
              omega
          · rw [hmet] at hmu
            repeat' first
              | refine k_then ?_
              | refine c_seq ?_
              | refine c_region ?_
              | refine s_nil ?_
              | refine s_lss (by exact rfl) (by exact rfl) (by exact rfl) ?_
              | refine s_idx (by exact rfl) (by exact rfl) (by exact rfl) (by assumption) (by first | assumption | omega) ?_
              | refine s_ldk_kid (by exact rfl) (by exact rfl) (by assumption) (by exact .tail _ (.tail _ (.tail _ (.tail _ (.tail _ (.head _)))))) (by decide) (by assumption) (by exact rfl) ?_
              | refine o_alloc (by exact rfl) (fun b => ?_)
              | refine c_block ?_
              | refine c_skip ?_
              | (refine c_cond_p (by exact rfl) (fun h => ?_) (fun h => ?_) <;> try (exfalso; omega))
            refine o_stk_box (i := 0) (us := [.int .i64 (a.1 : Int), .int .i64 (a.2 : Int)]) (by exact rfl) (by exact rfl) (by exact rfl) (by exact rfl) (by exact rfl) (by simp [Value.oneCell']) (by simp [Value.cells]) ?_
            repeat' first
              | refine k_then ?_
              | refine c_seq ?_
              | refine c_region ?_
              | refine s_nil ?_
              | refine s_move (by exact rfl) (by exact rfl) ?_
              | refine s_fa (by exact rfl) (by exact rfl) ?_
              | refine s_ld_box (by exact rfl) (by exact rfl) (by exact .head _) (by exact rfl) ?_
              | refine s_add (by exact rfl) (by exact rfl) (by exact rfl) (by omega) ?_
              | refine s_not (by exact rfl) (by exact rfl) ?_
              | refine s_idx (by exact rfl) (by exact rfl) (by exact rfl) (by assumption) (by first | assumption | omega) ?_
              | refine s_ld_row (by exact rfl) (by exact rfl) (by exact .tail _ (.tail _ (.head _))) (by assumption) ?_
              | refine c_skip ?_
              | refine k_blk ?_
              | refine c_cond_f (by exact rfl) ?_
            refine c_round (j + 1, vq, part2, met2, out2, lab2) [1, 1, 1, 1, 1, 1] (by exact rfl) (by exact ⟨rfl, rfl, rfl, rfl, rfl, rfl, rfl, rfl, rfl, rfl, rfl, trivial⟩) ⟨by omega, hB, hB.old hA hS hu hmet, hP, hC, hmi, hli, hat2, hM2⟩ (by dsimp only; omega)
        · obtain rfl : j = (ab l x).length := by omega
          repeat' first
            | refine k_then ?_
            | refine c_seq ?_
            | refine c_region ?_
            | refine s_nil ?_
            | refine s_move (by exact rfl) (by exact rfl) ?_
            | refine s_assign (by exact rfl) (by exact rfl) ?_
            | refine s_lss (by exact rfl) (by exact rfl) (by exact rfl) ?_
            | refine s_add (by exact rfl) (by exact rfl) (by exact rfl) (by omega) ?_
            | refine c_exit ?_
            | refine k_then_exit ?_
            | refine k_blk ?_
            | refine k_blk_eq ?_
            | (refine c_cond_p (by exact rfl) (fun h => ?_) (fun h => ?_) <;> try (exfalso; omega))
          have hnl : (nb l x).length = (ab l x).length := by rw [← ab_fst, List.length_map]
          refine c_round (vq, part2, at0 + 1, met2, out2, lab2) [0, 0, 0, 0, 0, 0] (by exact rfl) (by exact ⟨rfl, rfl, rfl, rfl, rfl, rfl, rfl, rfl, trivial⟩) ⟨by dsimp only; omega, hB.pop (by rw [hnl]; exact hS), hP, hC, hmi, hli⟩ (by dsimp only; omega)
      · repeat' first
          | refine k_then ?_
          | refine c_seq ?_
          | refine c_region ?_
          | refine s_nil ?_
          | refine s_move (by exact rfl) (by exact rfl) ?_
          | refine s_lss (by exact rfl) (by exact rfl) (by exact rfl) ?_
          | refine s_len (by exact rfl) (by exact rfl) (by assumption) ?_
          | refine c_exit ?_
          | refine k_then_exit ?_
          | refine k_blk_eq ?_
          | (refine c_cond_p (by exact rfl) (fun h => ?_) (fun h => ?_) <;> try (exfalso; omega))
        have hdn : part.drop at0 = [] := List.drop_eq_nil_of_le (by omega)
        rw [hdn] at hB
        have hca := comps_add (N := N) hli hP.nodup hP.mem
        have hcl := compsL_length N i met lab
        rw [hC] at hca hcl
        refine s_lend [rowHP vp 3 1 part.length (nV part)] _ (by exact rfl) (by exact rfl) (by exact rfl) (fun w S h => nsort_row (sats_mem h.own (.head _)) (by omega)) ?_
        rintro _ _ ⟨rfl, rfl⟩
        repeat' first
          | refine k_then ?_
          | refine c_region ?_
          | refine s_nil ?_
          | refine s_move (by exact rfl) (by exact rfl) ?_
        refine o_mk [vp] (by exact rfl) (by exact rfl) rfl ?_ ?_ (by simp) fun vt hvt => ?_
        · intro u hu
          obtain rfl : u = vp := by simpa using hu
          rw [← Array.length_toList, one_cells hvp.one]; rfl
        · simp
        rw [show ([vp].flatMap fun u => u.cells.toList) = [vp] from by simp [one_cells hvp.one]]
        skip
        refine o_append_row (i := 3) (by exact rfl) (by exact rfl) (by exact rfl) (by exact rfl) (by exact .head _) (by exact rfl) (by simp [hvp.one]) ?_ fun vr2 hvr2 => ?_
        · omega
        repeat' first
          | refine k_then ?_
          | refine c_region ?_
          | refine s_nil ?_
          | refine s_move (by exact rfl) (by exact rfl) ?_
          | refine s_assign (by exact rfl) (by exact rfl) ?_
          | refine s_add (by exact rfl) (by exact rfl) (by exact rfl) (by omega) ?_
          | refine k_blk ?_
        have e1 : rowHP vp 3 1 part.length (nV (part.mergeSort fun x y => decide (x ≤ y))) = rowN vp (part.mergeSort fun x y => decide (x ≤ y)) := by simp [rowN]
        refine c_pick [1, 1, 1, 1, 1, 1] (by exact rfl) ?_
        rw [e1]
        refine c_pushk 2 (by exact rfl) ?_
        refine c_round (i + 1, met, out, lab, vr2, hr0 ++ [vp]) [0, 0, 0, 0, 0] ?_ (by exact ⟨rfl, rfl, rfl, rfl, rfl, trivial⟩) ⟨by omega, hB.next hmi, ?_, fun u hu => by have := hP.le u hu; dsimp only; omega⟩ (by dsimp only; omega)
        · dsimp only
          rw [hca, kids_append hhr, List.length_append]
          rfl
        · dsimp only
          rw [hca, List.length_append, List.length_append, hhr]
          rfl
    · rw [hmet] at hmi
      repeat' first
        | refine k_then ?_
        | refine c_seq ?_
        | refine c_region ?_
        | refine s_nil ?_
        | refine s_move (by exact rfl) (by exact rfl) ?_
        | refine s_assign (by exact rfl) (by exact rfl) ?_
        | refine s_lss (by exact rfl) (by exact rfl) (by exact rfl) ?_
        | refine s_add (by exact rfl) (by exact rfl) (by exact rfl) (by omega) ?_
        | refine s_idx (by exact rfl) (by exact rfl) (by exact rfl) (by assumption) (by first | assumption | omega) ?_
        | refine s_ld_row (by exact rfl) (by exact rfl) (by exact .head _) (by assumption) ?_
        | refine c_block ?_
        | refine c_skip ?_
        | refine c_exit ?_
        | refine k_then_exit ?_
        | refine k_blk_eq ?_
        | (refine c_cond_p (by exact rfl) (fun h => ?_) (fun h => ?_) <;> try (exfalso; omega))
        | refine c_cond_t (by exact rfl) ?_
      have hne : lab i ≠ i := by have := hLt i hmet; omega
      have hcn := comps_next (N := N) (met := met) hne
      refine c_round (i + 1, met, out, lab, vr, hr0) [0, 0, 0, 0, 0] (by dsimp only; rw [hcn]; rfl) (by exact ⟨rfl, rfl, rfl, rfl, rfl, trivial⟩) ⟨by omega, hB.next hmet, by dsimp only; rw [hcn]; exact hhr, fun u hu => by have := hLt u hu; dsimp only; omega⟩ (by dsimp only; omega)
  · repeat' first
      | refine k_then ?_
      | refine c_seq ?_
      | refine c_region ?_
      | refine s_nil ?_
      | refine s_move (by exact rfl) (by exact rfl) ?_
      | refine s_assign (by exact rfl) (by exact rfl) ?_
      | refine s_lss (by exact rfl) (by exact rfl) (by exact rfl) ?_
      | refine c_exit ?_
      | refine c_ret ?_
      | refine k_then_exit ?_
      | refine k_blk_eq ?_
      | (refine c_cond_p (by exact rfl) (fun h => ?_) (fun h => ?_) <;> try (exfalso; omega))
    obtain rfl : i = N := by omega
    refine ret1 [1, 1] rfl rfl rfl ⟨met, out, lab, hr0, hB, hhr, rfl⟩
end Go.Proofs.Ytkekpgkacjpjnaa
end
section
namespace Fil
/-- those of a list of lists whose first is kept -/
def selL (kept : List Bool) (cs : List (List Nat)) : List (List Nat) := cs.filter fun c => kept.getD (c.headD 0) false
end Fil
namespace Go.Proofs.Ytkekpgkacjpjnaa
open Go.RowKit Go.Sl Fil
set_option maxRecDepth 100000
set_option maxHeartbeats 8000000
set_option linter.unusedVariables false
set_option linter.unusedSimpArgs false
attribute [local irreducible] Code.wp wpList bodyPost wpQuiet Exit.then Exit.inBlock Post wpAnyH wpOp
end Go.Proofs.Ytkekpgkacjpjnaa
end
section
set_option linter.unusedVariables false
namespace Fil
open Go.Proofs.Ytkekpgkacjpjnaa (keepE)
theorem mem_tn {es : List E} {u v : Nat} : (u, v) ∈ tn es ↔ ∃ e ∈ es, e.1.toNat = u ∧ e.2.1.toNat = v := by
  simp only [tn, List.mem_map, Prod.mk.injEq]
theorem RightG.tn_ne {n : Int} {es : List E} (h : RightG n es) : ∀ e ∈ tn es, e.1 ≠ e.2 := fun e he => by
  have := h.good.lt e he; omega
theorem only_edge {n : Int} {es : List E} {kept : List Bool} (hR : RightG n es) {u v : Nat} : u ∈ nb (tn (es.filter (keepE kept))) v ↔ kept.getD u false = true ∧ kept.getD v false = true ∧ u ∈ nb (tn es) v := by
  rw [mem_nb (hR.filter _).tn_ne, mem_nb hR.tn_ne]
  simp only [mem_tn, List.mem_filter, keepE, Bool.and_eq_true]
  constructor
  · rintro (⟨e, ⟨h1, h2, h3⟩, rfl, rfl⟩ | ⟨e, ⟨h1, h2, h3⟩, rfl, rfl⟩)
    · exact ⟨h3, h2, .inl ⟨e, h1, rfl, rfl⟩⟩
    · exact ⟨h2, h3, .inr ⟨e, h1, rfl, rfl⟩⟩
  · rintro ⟨h1, h2, ⟨e, h3, rfl, rfl⟩ | ⟨e, h3, rfl, rfl⟩⟩
    · exact .inl ⟨e, ⟨h3, h2, h1⟩, rfl, rfl⟩
    · exact .inr ⟨e, ⟨h3, h1, h2⟩, rfl, rfl⟩
theorem sel_nodup {N : Nat} {kept : List Bool} {lab : Nat → Nat} {c : List Nat} (h : c ∈ selL kept (compsS N lab)) : c.Nodup := by
  obtain ⟨r, hr, hl, rfl⟩ := comp_mem (List.mem_filter.1 h).1
  exact List.nodup_range.filter _
theorem sel_apart {N : Nat} {kept : List Bool} {lab : Nat → Nat} {i j v : Nat} {c d : List Nat} (hi : (selL kept (compsS N lab))[i]? = some c) (hj : (selL kept (compsS N lab))[j]? = some d) (hc : v ∈ c) (hd : v ∈ d) : i = j := by
  have hp : (selL kept (compsS N lab)).Pairwise fun c d => ∀ v, v ∈ c → v ∈ d → False := by
    refine List.Pairwise.filter _ ?_
    rw [compsS, compsI, List.pairwise_map]
    refine List.Pairwise.imp ?_ (List.nodup_range.filter _)
    intro a b hab v h1 h2
    have h1 := (List.mem_filter.1 h1).2
    have h2 := (List.mem_filter.1 h2).2
    simp at h1 h2
    omega
  rw [List.pairwise_iff_getElem] at hp
  obtain ⟨hi1, rfl⟩ := List.getElem?_eq_some_iff.1 hi
  obtain ⟨hj1, rfl⟩ := List.getElem?_eq_some_iff.1 hj
  rcases Nat.lt_trichotomy i j with h | h | h
  · exact (hp i j hi1 hj1 h v hc hd).elim
  · exact h
  · exact (hp j i hj1 hi1 h v hd hc).elim
/-- what has been marked: those of the lists before the x-th, and y of that one -/
def Marked (cs : List (List Nat)) (x y : Nat) (l : List Nat) : Prop := ∀ v, l.getD v 0 ≠ 0 → ∃ j c, cs[j]? = some c ∧ l.getD v 0 = j + 1 ∧ v ∈ c ∧ (j < x ∨ j = x ∧ v ∈ c.take y)
theorem Marked.zero {N : Nat} {kept : List Bool} {lab : Nat → Nat} {x y v : Nat} {l c : List Nat} (h : Marked (selL kept (compsS N lab)) x y l) (hc : (selL kept (compsS N lab))[x]? = some c) (hv : c[y]? = some v) : l.getD v 0 = 0 := by
  refine Decidable.byContradiction fun h0 => ?_
  obtain ⟨j, d, hj, _, hvd, h1⟩ := h v h0
  have := sel_apart hj hc hvd (List.mem_of_getElem? hv)
  rcases h1 with h1 | ⟨_, h1⟩
  · omega
  · subst this
    rw [hc] at hj
    obtain rfl : c = d := by simpa using hj
    have hn := sel_nodup (List.mem_of_getElem? hc)
    obtain ⟨i, hi⟩ := List.mem_iff_getElem?.1 h1
    rw [List.getElem?_take] at hi
    split at hi
    · rename_i hlt
      obtain ⟨h3, h4⟩ := List.getElem?_eq_some_iff.1 hi
      obtain ⟨h5, h6⟩ := List.getElem?_eq_some_iff.1 hv
      have hne := List.pairwise_iff_getElem.1 hn i y h3 h5 hlt
      exact hne (by rw [h4, h6])
    · simp at hi
theorem Marked.put {cs : List (List Nat)} {x y v : Nat} {l c : List Nat} (h : Marked cs x y l) (hc : cs[x]? = some c) (hv : c[y]? = some v) : Marked cs x (y + 1) (l.set v (x + 1)) := by
  intro u hu
  rw [getD_set] at hu ⊢
  split
  · rename_i e
    obtain ⟨rfl, _⟩ := e
    exact ⟨x, c, hc, rfl, List.mem_of_getElem? hv, .inr ⟨rfl, by rw [List.take_add_one, hv]; simp⟩⟩
  · rename_i e
    rw [if_neg e] at hu
    obtain ⟨j, d, h1, h2, h3, h4⟩ := h u hu
    refine ⟨j, d, h1, h2, h3, h4.imp id fun ⟨h5, h6⟩ => ⟨h5, ?_⟩⟩
    rw [List.take_add_one]
    exact List.mem_append.2 (.inl h6)
theorem Marked.next {cs : List (List Nat)} {x y : Nat} {l : List Nat} (h : Marked cs x y l) : Marked cs (x + 1) 0 l := by
  intro u hu
  obtain ⟨j, d, h1, h2, h3, h4⟩ := h u hu
  exact ⟨j, d, h1, h2, h3, .inl (by rcases h4 with h4 | ⟨h4, _⟩ <;> omega)⟩
theorem Marked.init (cs : List (List Nat)) (N : Nat) : Marked cs 0 0 (List.replicate N 0) := by
  intro u hu
  simp only [List.getD_eq_getElem?_getD, List.getElem?_replicate] at hu
  split at hu <;> simp at hu
end Fil
end
section
namespace Fil
theorem MaxIn.congr {nb : Nat → List Nat} {N : Nat} {k k' : Nat → Bool} {a : List Nat} (h : MaxIn nb N k a) (hk : ∀ u, u < N → k u = k' u) : MaxIn nb N k' a :=
  ⟨h.ind, fun u hu => ⟨(h.mem u hu).1, by rw [← hk u (h.mem u hu).1]; exact (h.mem u hu).2⟩, fun Y hY hm => h.top Y hY fun u hu => ⟨(hm u hu).1, by rw [hk u (hm u hu).1]; exact (hm u hu).2⟩⟩
theorem MaxIn.length {nb : Nat → List Nat} {N : Nat} {k : Nat → Bool} {a : List Nat} (h : MaxIn nb N k a) : a.length ≤ N := nodup_length h.ind.nd fun u hu => (h.mem u hu).1
theorem Ind.perm {nb : Nat → List Nat} {C : Nat → Bool} {a b : List Nat} (h : Ind nb a C) (hp : b.Perm a) : Ind nb b C :=
  ⟨hp.nodup_iff.2 h.nd, fun u hu v hv => h.no u (hp.mem_iff.1 hu) v (hp.mem_iff.1 hv), fun u hu => h.out u (hp.mem_iff.1 hu)⟩
theorem MaxIn.perm {nb : Nat → List Nat} {N : Nat} {k : Nat → Bool} {a b : List Nat} (h : MaxIn nb N k a) (hp : b.Perm a) : MaxIn nb N k b :=
  ⟨h.ind.perm hp, fun u hu => h.mem u (hp.mem_iff.1 hu), fun Y hY hm => by rw [hp.length_eq]; exact h.top Y hY hm⟩
theorem MaxIn.join {nb nb2 : Nat → List Nat} {N : Nat} {k1 k2 : Nat → Bool} {a b : List Nat} (h1 : MaxIn nb N k1 a) (h2 : MaxIn nb2 N k2 b) (hnb : ∀ u v, u < N → v < N → k2 u = true → k2 v = true → (u ∈ nb v ↔ u ∈ nb2 v))
    (hx : ∀ u v, u < N → v < N → k1 u = true → k2 v = true → u ∉ nb v ∧ v ∉ nb u) (hd : ∀ u, u < N → k1 u = true → k2 u = false) : MaxIn nb N (fun u => k1 u || k2 u) (a ++ b) := by
  refine ⟨⟨?_, ?_, fun _ _ _ _ => rfl⟩, ?_, ?_⟩
  · refine List.nodup_append.2 ⟨h1.ind.nd, h2.ind.nd, fun u hu v hv e => ?_⟩
    subst e
    have e1 := hd u (h1.mem u hu).1 (h1.mem u hu).2
    rw [(h2.mem u hv).2] at e1; simp at e1
  · intro u hu v hv
    rcases List.mem_append.1 hu with hu | hu
    · have u1 := h1.mem u hu
      rcases List.mem_append.1 hv with hv | hv
      · exact h1.ind.no u hu v hv
      · have v1 := h2.mem v hv
        exact (hx u v u1.1 v1.1 u1.2 v1.2).1
    · have u1 := h2.mem u hu
      rcases List.mem_append.1 hv with hv | hv
      · have v1 := h1.mem v hv
        exact (hx v u v1.1 u1.1 v1.2 u1.2).2
      · have v1 := h2.mem v hv
        rw [hnb u v u1.1 v1.1 u1.2 v1.2]
        exact h2.ind.no u hu v hv
  · intro u hu
    rcases List.mem_append.1 hu with hu | hu
    · exact ⟨(h1.mem u hu).1, by simp [(h1.mem u hu).2]⟩
    · exact ⟨(h2.mem u hu).1, by simp [(h2.mem u hu).2]⟩
  · intro Y hY hm
    have e1 : Y.length = (Y.filter k1).length + (Y.filter fun u => !k1 u).length := by
      rw [← List.countP_eq_length_filter, ← List.countP_eq_length_filter]
      have := List.length_eq_countP_add_countP k1 (l := Y)
      simpa using this
    have e2 : (Y.filter k1).length ≤ a.length := h1.top _ ⟨hY.nd.filter _, fun u hu v hv => hY.no u (List.mem_filter.1 hu).1 v (List.mem_filter.1 hv).1, fun _ _ _ _ => rfl⟩ fun u hu => ⟨(hm u (List.mem_filter.1 hu).1).1, (List.mem_filter.1 hu).2⟩
    have hk2 : ∀ u ∈ Y.filter fun u => !k1 u, u < N ∧ k2 u = true := fun u hu => by
      obtain ⟨f1, f2⟩ := List.mem_filter.1 hu
      obtain ⟨g1, g2⟩ := hm u f1
      refine ⟨g1, ?_⟩
      have : k1 u = false := by simpa using f2
      simpa [this] using g2
    have e3 : (Y.filter fun u => !k1 u).length ≤ b.length := h2.top _ ⟨hY.nd.filter _, fun u hu v hv => by
      have a1 := hk2 u hu
      have a2 := hk2 v hv
      rw [← hnb u v a1.1 a2.1 a1.2 a2.2]
      exact hY.no u (List.mem_filter.1 hu).1 v (List.mem_filter.1 hv).1, fun _ _ _ _ => rfl⟩ hk2
    rw [List.length_append]
    omega
def rootsL (N : Nat) (lab : Nat → Nat) : List Nat := (List.range N).filter fun v => lab v == v
theorem compsS_get {N : Nat} {lab : Nat → Nat} {i : Nat} {c : List Nat} (h : (compsS N lab)[i]? = some c) : ∃ r, (rootsL N lab)[i]? = some r ∧ r < N ∧ lab r = r ∧ c = (List.range N).filter fun u => lab u == r := by
  rw [compsS, compsI, List.getElem?_map, Option.map_eq_some_iff] at h
  obtain ⟨r, h1, rfl⟩ := h
  obtain ⟨h2, h3⟩ := List.mem_filter.1 (List.mem_of_getElem? h1)
  exact ⟨r, h1, by simpa using h2, by simpa using h3, rfl⟩
end Fil
namespace Go.Proofs.Ytkekpgkacjpjnaa
open Go Go.RowKit Go.Sl Fil
set_option maxRecDepth 100000
set_option maxHeartbeats 8000000
set_option linter.unusedVariables false
set_option linter.unusedSimpArgs false
attribute [local irreducible] Code.wp wpList bodyPost wpQuiet Exit.then Exit.inBlock Post wpAnyH wpOp
theorem Max_ok (n : Int) (v : Value) (es : List E) (w : World) (hs : Shp v es.length) (hr : RO w No v (esV es)) (hR : RightG n es) (h39 : n ≤ 39) :
    Calls Try.prog 28 #[.agg #[.int .i64 n, v]] w (Post w No fun r L' => ∃ (vo : Value) (l : List Nat), r = .tuple #[vo, .int .i64 0] ∧ L' = [rowHP vo 3 1 l.length (nV l)] ∧ Asc l ∧ MaxIn (nearS (tn es)) n.toNat (fun _ => true) l) := by
  have hR0 := right_iff.2 hR
  have hlo := hR.lo
  have hm : es.length < 4611686018427387904 := by have := hR.many; omega
  refine enter0 (vs := [_]) Try.func28 rfl Try.ntmps28 rfl ?_
  repeat' first
    | refine k_then ?_
    | refine c_seq ?_
    | refine c_region ?_
    | refine s_nil ?_
    | refine s_assign (by exact rfl) (by exact rfl) ?_
    | refine s_ldk_box (by exact rfl) (by exact rfl) (by exact .head _) (by exact rfl) (by exact rfl) ?_
    | refine o_box (by exact rfl) (by exact rfl) (fun b => ?_)
  revert b; intro b1
  refine s_call (by exact rfl) (by exact rfl) (fun w h => Right_ok n v es w hs (ro_old h hr) hm) ?_
  rw [hR0]
  repeat' first
    | refine k_then ?_
    | refine c_seq ?_
    | refine c_region ?_
    | refine s_nil ?_
    | refine s_neq (by exact rfl) (by exact rfl) (by exact rfl) ?_
    | refine s_ldk_box (by exact rfl) (by exact rfl) (by exact .head _) (by exact rfl) (by exact rfl) ?_
    | refine c_skip ?_
    | (refine c_cond_p (by exact rfl) (fun h => ?_) (fun h => ?_) <;> try (exfalso; omega))
  refine o_call (by exact rfl) (by exact rfl) (fun w h => Components_ok n v es w hs (ro_old h hr) hR) ?_
  rintro vc _ ⟨met, out0, lab, hc, hBfs, hcl, rfl⟩
  rw [hBfs.comps] at hcl ⊢
  have hLev := hBfs.lev
  refine know_row (v := vc) (.head _) fun hvc _ => ?_
  generalize hN : n.toNat = N at *
  have hnN : n = (N : Int) := by omega
  subst hnN
  have hedge : ∀ u v, u < N → v < N → u ∈ nearS (tn es) v → lab u = lab v := fun u v hu hv h => (hLev.edge v hv u (mem_nearS.1 h)).1
  have hcN : (compsS N lab).length ≤ N := compsI_length N N lab
  repeat' first
    | refine k_then ?_
    | refine s_nil ?_
    | refine s_move (by exact rfl) (by exact rfl) ?_
    | refine s_len (by exact rfl) (by exact rfl) (by assumption) ?_
    | refine c_block ?_
  refine c_nil 3 1 ?_
  refine c_loop (fun x : Nat × List Nat × Value => x.1 ≤ (compsS N lab).length ∧ MaxIn (nearS (tn es)) N (fun u => decide (lab u ∈ (rootsL N lab).take x.1)) x.2.1) (fun x => [(1, .pointer (some ⟨b1, 0, none⟩)), (2, x.2.2), (3, .int .i64 0), (13, vc), (14, .int .i64 ((compsS N lab).length : Int)), (15, .int .i64 (x.1 : Int))])
    (fun x => [rowHP x.2.2 3 1 x.2.1.length (nV x.2.1), rowHP vc 27 1 (compsS N lab).length hc, starHP (kids rowN hc (compsS N lab)), boxHP b1 24 [.int .i64 (N : Int), v]]) (fun x => (compsS N lab).length - x.1) (0, [], .slice none 0 0) [0, 0, 0, 0] ⟨Nat.zero_le _, ?_⟩ (by exact rfl) ⟨rfl, rfl, rfl, rfl, rfl, rfl, trivial⟩ ?_
  · refine ⟨⟨.nil, by simp, by simp⟩, by simp, fun Y hY hm => ?_⟩
    cases Y with
    | nil => exact Nat.le_refl _
    | cons a Y => have := (hm a (.head _)).2; simp at this
  rintro ⟨i, out, vo⟩ ⟨hi, hMx⟩
  dsimp only at hi hMx ⊢
  have hol := hMx.length
  by_cases hil : i < (compsS N lab).length
  · obtain ⟨c, hci⟩ : ∃ c, (compsS N lab)[i]? = some c := ⟨_, List.getElem?_eq_getElem hil⟩
    obtain ⟨hd, hhd⟩ : ∃ hd, hc[i]? = some hd := ⟨_, List.getElem?_eq_getElem (by omega)⟩
    have hhd1 : hc[i * 1]? = some hd := by simpa using hhd
    obtain ⟨r, hri, hrN, hrr, hcr⟩ := compsS_get hci
    have hcm : ∀ u, u ∈ c ↔ u < N ∧ lab u = r := fun u => by rw [hcr]; simp
    have hK : rowHP hd 3 1 c.length (nV c) ∈ kids rowN hc (compsS N lab) := kids_mem (f := rowN) (l := c) hhd hci
    refine know_kid (Ks := kids rowN hc (compsS N lab)) (.tail _ (.tail _ (.head _))) hK fun hhs _ => ?_
    have hcle : c.length ≤ N := by rw [hcr]; exact row_length N r lab
    clear hcr
    repeat' first
      | refine k_then ?_
      | refine c_seq ?_
      | refine c_region ?_
      | refine s_nil ?_
      | refine s_assign (by exact rfl) (by exact rfl) ?_
      | refine s_fa (by exact rfl) (by exact rfl) ?_
      | refine s_ld_box (by exact rfl) (by exact rfl) (by exact .tail _ (.tail _ (.tail _ (.head _)))) (by exact rfl) ?_
      | refine s_lss (by exact rfl) (by exact rfl) (by exact rfl) ?_
      | refine s_idx (by exact rfl) (by exact rfl) (by exact rfl) (by assumption) (by first | assumption | omega) ?_
      | refine s_ld_row (by exact rfl) (by exact rfl) (by exact .tail _ (.head _)) (by assumption) ?_
      | refine c_block ?_
      | refine c_skip ?_
      | (refine c_cond_p (by exact rfl) (fun h => ?_) (fun h => ?_) <;> try (exfalso; omega))
    refine o_make (by exact rfl) (by exact rfl) (by exact rfl) (by omega) (by omega) fun vk hvk => ?_
    rw [bVz]
    repeat' first
      | refine k_then ?_
      | refine c_seq ?_
      | refine c_region ?_
      | refine s_nil ?_
      | refine s_move (by exact rfl) (by exact rfl) ?_
      | refine s_assign (by exact rfl) (by exact rfl) ?_
      | refine s_len (by exact rfl) (by exact rfl) (by assumption) ?_
      | refine c_block ?_
    have hvk : Shp vk N := hvk
    have hgl : ∀ l : List Nat, (goneL (List.replicate N false) l).length = N := fun l => by rw [goneL_length, List.length_replicate]
    refine c_loop (fun j : Nat => j ≤ c.length) (fun j => [(1, .pointer (some ⟨b1, 0, none⟩)), (2, vo), (3, .int .i64 0), (13, vc), (14, .int .i64 ((compsS N lab).length : Int)), (15, .int .i64 (i : Int)), (5, hd), (6, vk), (22, hd), (23, .int .i64 (c.length : Int)), (24, .int .i64 (j : Int))])
      (fun j => [rowHP vk 4 1 N (bV (goneL (List.replicate N false) (c.take j))), rowHP vo 3 1 out.length (nV out), rowHP vc 27 1 (compsS N lab).length hc, starHP (kids rowN hc (compsS N lab)), boxHP b1 24 [.int .i64 (N : Int), v]]) (fun j => c.length - j) 0 [0, 0, 0, 0, 0] (Nat.zero_le _) (by exact rfl) ⟨rfl, rfl, rfl, rfl, rfl, rfl, rfl, rfl, rfl, rfl, rfl, trivial⟩ ?_
    intro j hj
    by_cases hjl : j < c.length
    · obtain ⟨u, hu⟩ : ∃ u, c[j]? = some u := ⟨_, List.getElem?_eq_getElem hjl⟩
      have hcu : (nV c)[j * 1]? = some (.int .i64 (u : Int)) := by simp [nV, hu]
      have huN : u < N := ((hcm u).1 (List.mem_of_getElem? hu)).1
      repeat' first
        | refine k_then ?_
        | refine c_seq ?_
        | refine c_region ?_
        | refine s_nil ?_
        | refine s_move (by exact rfl) (by exact rfl) ?_
        | refine s_assign (by exact rfl) (by exact rfl) ?_
        | refine s_lss (by exact rfl) (by exact rfl) (by exact rfl) ?_
        | refine s_idx (by exact rfl) (by exact rfl) (by exact rfl) (by assumption) (by first | assumption | omega) ?_
        | refine s_ld_kid (by exact rfl) (by exact rfl) (by assumption) (by exact .tail _ (.tail _ (.tail _ (.head _)))) (by assumption) ?_
        | refine c_block ?_
        | refine c_skip ?_
        | (refine c_cond_p (by exact rfl) (fun h => ?_) (fun h => ?_) <;> try (exfalso; omega))
      refine o_st_row (i := 0) (by exact rfl) (by exact rfl) (by exact rfl) rfl (by omega) ?_
      repeat' first
        | refine k_then ?_
        | refine c_region ?_
        | refine s_nil ?_
        | refine s_move (by exact rfl) (by exact rfl) ?_
        | refine s_add (by exact rfl) (by exact rfl) (by exact rfl) (by omega) ?_
        | refine k_blk ?_
      refine c_round (j + 1) [0, 0, 0, 0, 0] (by rw [List.take_add_one, hu, Option.toList_some, goneL_snoc, ← bV_set]; exact rfl) ⟨rfl, rfl, rfl, rfl, rfl, rfl, rfl, rfl, rfl, rfl, rfl, trivial⟩ (by omega) (by omega)
    · rw [List.take_of_length_le (by omega)]
      have hkm : ∀ u, u < N → ((goneL (List.replicate N false) c).getD u false = decide (lab u = r)) := fun u hu => by
        rw [Bool.eq_iff_iff, goneL_get (fun a ha => by rw [List.length_replicate]; exact ((hcm a).1 ha).1), hcm, decide_eq_true_eq]
        simp [List.getD_eq_getElem?_getD, List.getElem?_replicate, hu]
      have hkl := hgl c
      generalize goneL (List.replicate N false) c = ks at *
      have hRf := hR.filter (keepE ks)
      repeat' first
        | refine k_then ?_
        | refine c_seq ?_
        | refine c_region ?_
        | refine s_nil ?_
        | refine s_move (by exact rfl) (by exact rfl) ?_
        | refine s_lss (by exact rfl) (by exact rfl) (by exact rfl) ?_
        | refine s_ldk_box (by exact rfl) (by exact rfl) (by exact .tail _ (.tail _ (.tail _ (.tail _ (.head _))))) (by exact rfl) (by exact rfl) ?_
        | refine c_exit ?_
        | refine k_then_exit ?_
        | refine k_blk_eq ?_
        | (refine c_cond_p (by exact rfl) (fun h => ?_) (fun h => ?_) <;> try (exfalso; omega))
      refine o_call (by exact rfl) (by exact rfl) (fun w h => Only_ok N v es vk ks w hs (ro_old h hr) hR (by rw [hkl]; exact hvk) (ro_own h (by rw [hkl] at *; exact .head _))) ?_
      rintro _ _ ⟨vf, rfl, rfl⟩
      refine know_row (v := vf) (.head _) fun hvf _ => ?_
      repeat' first
        | refine s_move (by exact rfl) (by exact rfl) ?_
      refine o_call (by exact rfl) (by exact rfl) (fun w h => piece_ok N vf vk (es.filter (keepE ks)) ks w hvf (ro_own h (.head _)) hRf h39 (by rw [hkl]; exact hvk) (ro_own h (by rw [hkl] at *; exact .tail _ (.head _))) (by rw [hkl]; omega) (fun a u hu => ((only_edge hR).1 (mem_nearS.1 hu)).1)) ?_
      rintro vp _ ⟨oc, rfl, hMc⟩
      rw [Int.toNat_natCast] at hMc
      have hocl := hMc.length
      have hMn := hMx.join hMc (fun u v hu hv h1 h2 => by
          rw [mem_nearS, mem_nearS, only_edge hR]
          exact ⟨fun h => ⟨h1, h2, h⟩, fun h => h.2.2⟩) (fun u v hu hv h1 h2 => by
          rw [hkm v hv] at h2
          have hne : lab u ≠ lab v := fun e => by
            have h1 := of_decide_eq_true h1
            rw [e, of_decide_eq_true h2] at h1
            obtain ⟨q, hq⟩ := List.mem_iff_getElem?.1 h1
            rw [List.getElem?_take] at hq
            split at hq
            · have hnd : (rootsL N lab).Nodup := List.nodup_range.filter _
              have := (List.getElem?_inj (List.getElem?_eq_some_iff.1 hq).1 hnd).1 (hq.trans hri.symm)
              omega
            · simp at hq
          exact ⟨fun h => hne (hedge u v hu hv h), fun h => hne (hedge v u hv hu h).symm⟩) (fun u hu h1 => by
          rw [hkm u hu]
          refine decide_eq_false fun e => ?_
          have h1 := of_decide_eq_true h1
          rw [e] at h1
          obtain ⟨q, hq⟩ := List.mem_iff_getElem?.1 h1
          rw [List.getElem?_take] at hq
          split at hq
          · have hnd : (rootsL N lab).Nodup := List.nodup_range.filter _
            have := (List.getElem?_inj (List.getElem?_eq_some_iff.1 hq).1 hnd).1 (hq.trans hri.symm)
            omega
          · simp at hq)
      have hMn2 := hMn.congr (k' := fun u => decide (lab u ∈ (rootsL N lab).take (i + 1))) fun u hu => by
        rw [hkm u hu, List.take_add_one, hri, Bool.eq_iff_iff]
        simp
      skip
      refine o_append_row (i := 3) (by exact rfl) (by exact rfl) (by exact rfl) (by exact rfl) (by exact .head _) (by simp [nV]) (nV_one _) (by omega) fun vo2 hvo2 => ?_
      repeat' first
        | refine k_then ?_
        | refine c_region ?_
        | refine s_nil ?_
        | refine s_move (by exact rfl) (by exact rfl) ?_
        | refine s_assign (by exact rfl) (by exact rfl) ?_
        | refine s_add (by exact rfl) (by exact rfl) (by exact rfl) (by omega) ?_
        | refine k_blk ?_
      refine c_round (i + 1, out ++ oc, vo2) [3, 3, 3, 3] ?_ ⟨rfl, rfl, rfl, rfl, rfl, rfl, trivial⟩ ⟨by dsimp only; omega, hMn2⟩ (by dsimp only; omega)
      dsimp only
      rw [show nV (out ++ oc) = nV out ++ nV oc by simp [nV], List.length_append]
      rfl
  · have hMf := hMx.congr (k' := fun _ => true) fun u hu => by
      rw [decide_eq_true_eq]
      obtain rfl : i = (compsS N lab).length := by omega
      rw [List.take_of_length_le (by simp [compsS, compsI, rootsL])]
      refine List.mem_filter.2 ⟨List.mem_range.2 ?_, by simpa using hLev.idem u hu⟩
      have := hLev.le u hu; omega
    repeat' first
      | refine k_then ?_
      | refine c_seq ?_
      | refine c_region ?_
      | refine s_nil ?_
      | refine s_move (by exact rfl) (by exact rfl) ?_
      | refine s_lss (by exact rfl) (by exact rfl) (by exact rfl) ?_
      | refine c_exit ?_
      | refine k_then_exit ?_
      | refine k_blk_eq ?_
      | (refine c_cond_p (by exact rfl) (fun h => ?_) (fun h => ?_) <;> try (exfalso; omega))
    refine s_lend [rowHP vo 3 1 out.length (nV out)] _ (by exact rfl) (by exact rfl) (by exact rfl) (fun w S h => nsort_row (sats_mem h.own (.head _)) (by omega)) ?_
    rintro _ _ ⟨rfl, rfl⟩
    repeat' first
      | refine k_then ?_
      | refine c_seq ?_
      | refine c_region ?_
      | refine s_nil ?_
      | refine s_move (by exact rfl) (by exact rfl) ?_
      | refine s_assign (by exact rfl) (by exact rfl) ?_
      | refine c_ret ?_
    refine ret2 [0] rfl rfl rfl (by exact rfl) ⟨vo, sortN out, rfl, ?_, sortN_asc hMf.ind.nd, hMf.perm (sortN_perm out)⟩
    rw [(sortN_perm out).length_eq]
    rfl
end Go.Proofs.Ytkekpgkacjpjnaa
end
section
namespace Fil
def swapE (e : E) : E := if e.2.1 < e.1 then (e.2.1, e.1, e.2.2) else e
def posE (g : List E) (e : E) : Nat → Nat
  | 0 => 0
  | k + 1 => if belowB e (g.getD k (0, 0, 0)) then posE g e k else k + 1
def insE (g : List E) (e : E) : List E := g.take (posE g e g.length) ++ [e] ++ g.drop (posE g e g.length)
def twE (g : List E) (e : E) : Bool := decide (0 < posE g e g.length) && !belowB (g.getD (posE g e g.length - 1) (0, 0, 0)) e
def makeF (n : Int) : List E → List E → Bool → Int × List E
  | [], g, tw => if tw then (7, []) else (0, g)
  | e :: l, g, tw => if aloneK n e.1 e.2.1 e.2.2 = 0 then makeF n l (insE g (swapE e)) (tw || twE g (swapE e)) else (aloneK n e.1 e.2.1 e.2.2, [])
def makeR (n : Int) (l : List E) : Int × List E := if sizesK n l.length = 0 then makeF n l [] false else (sizesK n l.length, [])
theorem posE_le (g : List E) (e : E) : ∀ k, posE g e k ≤ k
  | 0 => Nat.le_refl _
  | k + 1 => by
    rw [posE]
    have := posE_le g e k
    split <;> omega
theorem insE_length (g : List E) (e : E) : (insE g e).length = g.length + 1 := by
  have := posE_le g e g.length
  simp [insE]; omega
theorem makeF_at {n : Int} {l g : List E} {tw : Bool} {i : Nat} {e : E} (h : l[i]? = some e) : makeF n (l.drop i) g tw = if aloneK n e.1 e.2.1 e.2.2 = 0 then makeF n (l.drop (i + 1)) (insE g (swapE e)) (tw || twE g (swapE e)) else (aloneK n e.1 e.2.1 e.2.2, []) := by
  obtain ⟨h1, h2⟩ := List.getElem?_eq_some_iff.1 h
  rw [List.drop_eq_getElem_cons h1, h2]; rfl
end Fil
namespace Go.Proofs.Ytkekpgkacjpjnaa
open Go Go.RowKit Go.Sl Fil
set_option maxRecDepth 100000
set_option maxHeartbeats 8000000
set_option linter.unusedVariables false
set_option linter.unusedSimpArgs false
attribute [local irreducible] Code.wp wpList bodyPost wpQuiet Exit.then Exit.inBlock Post wpAnyH wpOp
theorem eV_one (e : E) : ∀ u ∈ eV e, u.oneCell' = true := by
  intro u hu
  simp only [eV, List.mem_cons, List.not_mem_nil, or_false] at hu
  rcases hu with rfl | rfl | rfl <;> rfl
theorem esV_one (l : List E) : ∀ u ∈ esV l, u.oneCell' = true := by
  intro u hu
  obtain ⟨e, _, he⟩ := List.mem_flatMap.1 hu
  exact eV_one e u he
theorem esV_append (a b : List E) : esV (a ++ b) = esV a ++ esV b := by simp [esV]
theorem esV_take (l : List E) (k : Nat) : (esV l).take (k * 3) = esV (l.take k) := by
  induction l generalizing k with
  | nil => simp [esV]
  | cons a l ih =>
    cases k with
    | zero => simp [esV]
    | succ k =>
      rw [show (k + 1) * 3 = k * 3 + 1 + 1 + 1 by omega, List.take_succ_cons]
      show ((eV a) ++ esV l).take _ = eV a ++ esV (l.take k)
      simp only [eV, List.cons_append, List.nil_append, List.take_succ_cons, ih]
theorem esV_drop (l : List E) (k : Nat) : (esV l).drop (k * 3) = esV (l.drop k) := by
  induction l generalizing k with
  | nil => simp [esV]
  | cons a l ih =>
    cases k with
    | zero => simp
    | succ k =>
      rw [show (k + 1) * 3 = k * 3 + 1 + 1 + 1 by omega, List.drop_succ_cons]
      show ((eV a) ++ esV l).drop _ = esV (l.drop k)
      simp only [eV, List.cons_append, List.nil_append, List.drop_succ_cons, ih]
theorem refMake_ok (n : Int) (vl : Value) (l : List E) (w : World) (hs : Shp vl l.length) (hr : RO w No vl (esV l)) (hm : l.length ≤ 4194304) :
    Calls Try.prog 69 #[.int .i64 n, vl] w (Post w No fun r L' => ∃ vo, r = .tuple #[.agg #[.int .i64 (if (makeR n l).1 = 0 then n else 0), vo], .int .i64 (makeR n l).1] ∧ L' = [rowHP vo 47 3 (makeR n l).2.length (esV (makeR n l).2)]) := by
  have hmm : l.length < 4611686018427387904 := by omega
  refine enter0 (vs := [_, _]) Try.func69 rfl Try.ntmps69 rfl ?_
  repeat' first
    | refine k_then ?_
    | refine c_seq ?_
    | refine c_region ?_
    | refine s_nil ?_
    | refine s_move (by exact rfl) (by exact rfl) ?_
    | refine s_assign (by exact rfl) (by exact rfl) ?_
    | refine s_len (by exact rfl) (by exact rfl) (by assumption) ?_
    | refine o_alloc (by exact rfl) (fun b => ?_)
  revert b; intro b4
  refine s_call (by exact rfl) (by exact rfl) (fun w h => many_ok n l.length w) ?_
  by_cases h0 : sizesK n l.length = 0
  · rw [h0]
    repeat' first
      | refine k_then ?_
      | refine c_seq ?_
      | refine c_region ?_
      | refine s_nil ?_
      | refine s_move (by exact rfl) (by exact rfl) ?_
      | refine s_assign (by exact rfl) (by exact rfl) ?_
      | refine s_neq (by exact rfl) (by exact rfl) (by exact rfl) ?_
      | refine c_skip ?_
      | (refine c_cond_p (by exact rfl) (fun h => ?_) (fun h => ?_) <;> try (exfalso; omega))
    refine o_build (cs := [.int .i64 n, .slice none 0 0]) [(0, .int .i64 n, [.int .i64 n])] (by exact rfl) (by exact rfl) (by simp [Value.cells]) (by exact rfl) ?_
    repeat' first
      | refine o_alloc (by exact rfl) (fun b => ?_)
    revert b; intro b7
    refine o_stk_box (i := 0) (us := [.int .i64 n, .slice none 0 0]) (by exact rfl) (by exact rfl) (by exact rfl) (by exact rfl) (by exact rfl) (by simp [Value.oneCell']) (by simp [Value.cells]) ?_
    repeat' first
      | refine k_then ?_
      | refine c_seq ?_
      | refine c_region ?_
      | refine s_nil ?_
      | refine s_assign (by exact rfl) (by exact rfl) ?_
      | refine c_block ?_
    refine c_nil 47 3 ?_
    refine c_loop (fun x : Nat × List E × Bool × Value => x.1 ≤ l.length ∧ x.2.1.length = x.1 ∧ makeF n (l.drop x.1) x.2.1 x.2.2.1 = makeR n l) (fun x => [(0, .int .i64 n), (1, vl), (4, .pointer (some ⟨b4, 0, none⟩)), (5, .int .i64 0), (7, .pointer (some ⟨b7, 0, none⟩)), (8, .bool x.2.2.1), (9, .int .i64 (x.1 : Int))])
      (fun x => [rowHP x.2.2.2 47 3 x.2.1.length (esV x.2.1), boxHP b7 24 [.int .i64 n, x.2.2.2], boxHP b4 24 [.int .i64 0, .slice none 0 0]]) (fun x => l.length - x.1) (0, [], false, .slice none 0 0) [0, 0, 0] ⟨Nat.zero_le _, rfl, by rw [makeR, if_pos h0]; rfl⟩ (by exact rfl) ⟨rfl, rfl, rfl, rfl, rfl, rfl, rfl, trivial⟩ ?_
    rintro ⟨i, g, tw, vg⟩ ⟨hi, hgl, hmk⟩
    dsimp only at hi hgl hmk ⊢
    by_cases hil : i < l.length
    · obtain ⟨e, he⟩ : ∃ e, l[i]? = some e := ⟨_, List.getElem?_eq_getElem hil⟩
      have hE := esV_at he
      rw [makeF_at he] at hmk
      refine know_row (v := vg) (.head _) fun hvg _ => ?_
      repeat' first
        | refine k_then ?_
        | refine c_seq ?_
        | refine c_region ?_
        | refine s_nil ?_
        | refine s_move (by exact rfl) (by exact rfl) ?_
        | refine s_lss (by exact rfl) (by exact rfl) (by exact rfl) ?_
        | refine s_len (by exact rfl) (by exact rfl) (by assumption) ?_
        | refine s_idx (by exact rfl) (by exact rfl) (by exact rfl) (by assumption) (by first | assumption | omega) ?_
        | refine s_ldk_ro (by exact rfl) (by exact rfl) (by assumption) (by decide) (by assumption) (by exact rfl) ?_
        | refine o_alloc (by exact rfl) (fun b => ?_)
        | refine c_block ?_
        | refine c_skip ?_
        | (refine c_cond_p (by exact rfl) (fun h => ?_) (fun h => ?_) <;> try (exfalso; omega))
      revert b; intro b10
      refine o_stk_box (i := 0) (us := eV e) (by exact rfl) (by exact rfl) (by exact rfl) (by exact rfl) (by exact rfl) (eV_one e) (by simp [Value.cells]) ?_
      repeat' first
        | refine k_then ?_
        | refine c_seq ?_
        | refine c_region ?_
        | refine s_nil ?_
        | refine s_move (by exact rfl) (by exact rfl) ?_
        | refine s_ldk_box (by exact rfl) (by exact rfl) (by exact .head _) (by exact rfl) (by exact rfl) ?_
      refine s_call (vs := [.int .i64 n, .agg (eV e).toArray]) (by exact rfl) (by exact rfl) (fun w h => edge_ok n e w) ?_
      by_cases ha : aloneK n e.1 e.2.1 e.2.2 = 0
      · rw [if_pos ha] at hmk
        rw [ha]
        refine c_pick [1, 1, 1, 0] (by exact rfl) ?_
        generalize hreg : Code.cond (Operand.tmp 44) _ _ = ccond
        repeat' first
          | refine k_then ?_
          | refine c_seq ?_
          | refine c_region ?_
          | refine s_nil ?_
          | refine s_move (by exact rfl) (by exact rfl) ?_
          | refine s_assign (by exact rfl) (by exact rfl) ?_
          | refine s_fa (by exact rfl) (by exact rfl) ?_
          | refine s_ld_box (by exact rfl) (by exact rfl) (by exact .tail _ (.tail _ (.tail _ (.head _)))) (by exact rfl) ?_
          | refine s_gtr (by exact rfl) (by exact rfl) (by exact rfl) ?_
          | refine s_neq (by exact rfl) (by exact rfl) (by exact rfl) ?_
          | refine c_skip ?_
          | (refine c_cond_p (by exact rfl) (fun h => ?_) (fun h => ?_) <;> try (exfalso; omega))
        subst hreg
        refine c_join (X := Unit) (fun _ => [(0, .int .i64 n), (1, vl), (4, .pointer (some ⟨b4, 0, none⟩)), (5, .int .i64 0), (7, .pointer (some ⟨b7, 0, none⟩)), (8, .bool tw), (9, .int .i64 (i : Int)), (10, .pointer (some ⟨b10, 0, none⟩))]) (fun _ => [rowHP vg 47 3 g.length (esV g), boxHP b7 24 [.int .i64 n, vg], boxHP b4 24 [.int .i64 0, .slice none 0 0], boxHP b10 47 (eV (swapE e))]) (fun K hk => ?_) (fun _ => ?_)
        · repeat' first
            | refine k_then ?_
            | refine c_region ?_
            | refine s_fa (by exact rfl) (by exact rfl) ?_
            | refine s_ld_box (by exact rfl) (by exact rfl) (by exact .tail _ (.tail _ (.tail _ (.head _)))) (by exact rfl) ?_
            | refine c_skip ?_
            | (refine c_cond_p (by exact rfl) (fun h => ?_) (fun h => ?_) <;> try (exfalso; omega))
          · refine o_build (cs := eV (swapE e)) [(0, .int .i64 e.2.1, [.int .i64 e.2.1]), (1, .int .i64 e.1, [.int .i64 e.1]), (2, .int .i64 e.2.2, [.int .i64 e.2.2])] (by exact rfl) (by exact rfl) (by simp [Value.cells]) (by rw [swapE, if_pos (by assumption)]; exact rfl) ?_
            skip
            refine o_stk_box (i := 3) (us := eV (swapE e)) (by exact rfl) (by exact rfl) (by exact rfl) (by exact rfl) (by exact rfl) (eV_one _) (by simp [Value.cells, eV, putL]) ?_
            repeat' first
              | refine k_then ?_
              | refine s_nil ?_
            exact j_end hk () [0, 0, 0, 0] (by exact rfl) ⟨rfl, rfl, rfl, rfl, rfl, rfl, rfl, rfl, trivial⟩
          · exact j_end hk () [0, 0, 0, 0] (by rw [swapE, if_neg (by assumption)]; exact rfl) ⟨rfl, rfl, rfl, rfl, rfl, rfl, rfl, rfl, trivial⟩
        generalize swapE e = x at *
        clear hE he ha
        have hple := posE_le g x g.length
        generalize hreg : Code.block 2 _ = cblk
        repeat' first
          | refine k_then ?_
          | refine c_seq ?_
          | refine c_region ?_
          | refine s_nil ?_
          | refine s_assign (by exact rfl) (by exact rfl) ?_
          | refine s_fa (by exact rfl) (by exact rfl) ?_
          | refine s_ld_box (by exact rfl) (by exact rfl) (by exact .tail _ (.head _)) (by exact rfl) ?_
          | refine s_len (by exact rfl) (by exact rfl) (by assumption) ?_
        subst hreg
        refine c_join (X := Unit) (fun _ => [(0, .int .i64 n), (1, vl), (4, .pointer (some ⟨b4, 0, none⟩)), (5, .int .i64 0), (7, .pointer (some ⟨b7, 0, none⟩)), (8, .bool tw), (9, .int .i64 (i : Int)), (10, .pointer (some ⟨b10, 0, none⟩)), (12, .int .i64 (posE g x g.length : Int))]) (fun _ => [rowHP vg 47 3 g.length (esV g), boxHP b7 24 [.int .i64 n, vg], boxHP b4 24 [.int .i64 0, .slice none 0 0], boxHP b10 47 (eV x)]) (fun K hk => ?_) (fun _ => ?_)
        · repeat' first
            | refine c_block ?_
          refine c_loop (fun k : Nat => k ≤ g.length ∧ posE g x k = posE g x g.length) (fun k => [(0, .int .i64 n), (1, vl), (4, .pointer (some ⟨b4, 0, none⟩)), (5, .int .i64 0), (7, .pointer (some ⟨b7, 0, none⟩)), (8, .bool tw), (9, .int .i64 (i : Int)), (10, .pointer (some ⟨b10, 0, none⟩)), (12, .int .i64 (k : Int))]) (fun _ => _) (fun k => k) g.length (List.replicate _ 0) ⟨Nat.le_refl _, rfl⟩ (pick_id _) ⟨rfl, rfl, rfl, rfl, rfl, rfl, rfl, rfl, rfl, trivial⟩ ?_
          rintro k ⟨hk2, hpk⟩
          cases k with
          | zero =>
            repeat' first
              | refine c_seq ?_
            refine p_begin0 [(0, true), (1, true), (2, true), (3, true), (4, true), (5, true), (6, true), (7, true), (8, true), (9, true), (10, false), (11, true)] (by kernel_rfl) ?_
            repeat' first
              | refine p_nil ?_
              | (refine p_at (by exact rfl) ?_
                 first
                  | refine t_move (by exact rfl) (by exact rfl) (by exact fun _ h => h) ?_
                  | refine t_gtr (by exact rfl) (by exact rfl) (by exact rfl) (by exact fun _ h => h) ?_
                  | refine t_pick_f (by exact rfl) (by exact rfl) (by exact rfl) (by exact fun _ h => h) ?_
                  | (refine t_case (by exact rfl) (by exact rfl) (fun h => ?_) (fun h => ?_) <;> try (exfalso; omega))
                  | refine t_skip (by exact rfl) (by exact rfl) (by exact rfl) (by exact rfl) (by exact fun _ h => h) ?_
                  | refine t_skipl (by exact rfl) (by exact rfl) (by exact rfl) (by exact rfl) (by exact fun _ h => h) ?_)
            repeat' first
              | refine k_then ?_
              | refine c_exit ?_
              | refine k_then_exit ?_
              | refine k_blk_eq ?_
              | refine c_cond_f (by exact rfl) ?_
            exact j_end hk () [0, 0, 0, 0] (by exact rfl) (by rw [← hpk]; exact ⟨rfl, rfl, rfl, rfl, rfl, rfl, rfl, rfl, rfl, trivial⟩)
          | succ k =>
            obtain ⟨q, hq⟩ : ∃ q, g[k]? = some q := ⟨_, List.getElem?_eq_getElem (by omega)⟩
            have hQ := esV_at hq
            have hgq : g.getD k (0, 0, 0) = q := by rw [List.getD_eq_getElem?_getD, hq]; rfl
            have hkk : ((k + 1 : Nat) : Int) - 1 = (k : Int) := by omega
            have hQ2 : ((esV g).drop ((((k + 1 : Nat) : Int) - 1).toNat * 3)).take 3 = eV q := by rw [hkk]; exact hQ
            rw [posE, hgq] at hpk
            repeat' first
              | refine c_seq ?_
            refine p_begin0 [(0, true), (1, true), (2, true), (3, true), (4, true), (5, true), (6, true), (7, true), (8, true), (9, true), (10, false), (11, true)] (by kernel_rfl) ?_
            repeat' first
              | (refine p_at (by exact rfl) ?_
                 first
                  | refine t_move (by exact rfl) (by exact rfl) (by exact fun _ h => h) ?_
                  | refine t_gtr (by exact rfl) (by exact rfl) (by exact rfl) (by exact fun _ h => h) ?_
                  | refine tw_move (by exact rfl) (by exact rfl) (by exact rfl) (by exact rfl) (by exact fun _ h => h) ?_
                  | refine tw_fa (by exact rfl) (by exact rfl) (by exact rfl) (by exact rfl) (by exact fun _ h => h) ?_
                  | refine tw_ld_box (by exact rfl) (by exact rfl) (by exact rfl) (by exact rfl) (by exact .tail _ (.head _)) (by exact rfl) (by exact fun _ h => h) ?_
                  | refine tw_sub (by exact rfl) (by exact rfl) (by exact rfl) (by exact rfl) (by exact rfl) (by omega) (by exact fun _ h => h) ?_
                  | refine tw_idxi (by exact rfl) (by exact rfl) (by exact rfl) (by exact rfl) (by exact rfl) (by assumption) (by first | assumption | omega) (by exact fun _ h => h) ?_
                  | refine tw_ldk_box (by exact rfl) (by exact rfl) (by exact rfl) (by exact rfl) (by exact .tail _ (.tail _ (.tail _ (.head _)))) (by exact rfl) (by exact rfl) (by exact fun _ h => h) ?_
                  | refine tw_ldk_row (by exact rfl) (by exact rfl) (by exact rfl) (by exact rfl) (by exact .head _) (by decide) (by assumption) (by exact rfl) (by exact fun _ h => h) ?_
                  | (refine t_case (by exact rfl) (by exact rfl) (fun h => ?_) (fun h => ?_) <;> try (exfalso; omega)))
            refine p_callw (vs := [.agg (eV x).toArray, .agg (eV q).toArray]) (by exact rfl) (by exact rfl) (by exact rfl) rfl (by exact rfl) (fun w hs => below_ok x q w) (by exact fun _ h => h) ?_
            cases hbl : belowB x q
            · rw [hbl, if_neg (by simp)] at hpk
              repeat' first
                | refine p_nil ?_
                | (refine p_at (by exact rfl) ?_
                   first
                    | refine t_pick_t (by exact rfl) (by exact rfl) (by exact rfl) (by exact fun _ h => h) ?_)
              repeat' first
                | refine k_then ?_
                | refine c_exit ?_
                | refine k_then_exit ?_
                | refine k_blk_eq ?_
                | refine c_cond_f (by exact rfl) ?_
              exact j_end hk () [0, 0, 0, 0] (by exact rfl) (by rw [← hpk]; exact ⟨rfl, rfl, rfl, rfl, rfl, rfl, rfl, rfl, rfl, trivial⟩)
            · rw [hbl, if_pos rfl] at hpk
              repeat' first
                | refine p_nil ?_
                | (refine p_at (by exact rfl) ?_
                   first
                    | refine t_pick_t (by exact rfl) (by exact rfl) (by exact rfl) (by exact fun _ h => h) ?_)
              repeat' first
                | refine k_then ?_
                | refine c_region ?_
                | refine s_nil ?_
                | refine s_move (by exact rfl) (by exact rfl) ?_
                | refine s_assign (by exact rfl) (by exact rfl) ?_
                | refine s_sub (by exact rfl) (by exact rfl) (by exact rfl) (by omega) ?_
                | refine c_block ?_
                | refine c_skip ?_
                | refine k_blk ?_
                | refine c_cond_t (by exact rfl) ?_
              refine c_round k (List.replicate _ 0) (pick_id _) ⟨rfl, rfl, rfl, rfl, rfl, rfl, rfl, rfl, by rw [← hkk]; rfl, trivial⟩ ⟨by omega, hpk⟩ (by omega)
        generalize hp : posE g x g.length = p at *
        have hins : insE g x = g.take p ++ [x] ++ g.drop p := by rw [insE, hp]
        have htw : twE g x = (decide (0 < p) && !belowB (g.getD (p - 1) (0, 0, 0)) x) := by rw [twE, hp]
        refine c_seq ?_
        refine c_join (X := Unit) (fun _ => [(0, .int .i64 n), (1, vl), (4, .pointer (some ⟨b4, 0, none⟩)), (5, .int .i64 0), (7, .pointer (some ⟨b7, 0, none⟩)), (8, .bool (tw || twE g x)), (9, .int .i64 (i : Int)), (10, .pointer (some ⟨b10, 0, none⟩)), (12, .int .i64 (p : Int))]) (fun _ => [rowHP vg 47 3 g.length (esV g), boxHP b7 24 [.int .i64 n, vg], boxHP b4 24 [.int .i64 0, .slice none 0 0], boxHP b10 47 (eV x)]) (fun K hk => ?_) (fun _ => ?_)
        · cases htwb : tw
          · cases p with
            | zero =>
              refine p_begin0 [(0, true), (1, true), (2, true), (3, true), (4, true), (5, true), (6, true), (7, true), (8, true), (9, true), (10, true), (11, true), (12, false), (13, true), (14, true), (15, true), (16, true)] (by kernel_rfl) ?_
              repeat' first
                | refine p_nil ?_
                | (refine p_at (by exact rfl) ?_
                   first
                    | refine t_move (by exact rfl) (by exact rfl) (by exact fun _ h => h) ?_
                    | refine t_assign (by exact rfl) (by exact rfl) (by exact fun _ h => h) ?_
                    | refine t_pick_f (by exact rfl) (by exact rfl) (by exact rfl) (by exact fun _ h => h) ?_
                    | refine tw_move (by exact rfl) (by exact rfl) (by exact rfl) (by exact rfl) (by exact fun _ h => h) ?_
                    | refine tw_gtr (by exact rfl) (by exact rfl) (by exact rfl) (by exact rfl) (by exact rfl) (by exact fun _ h => h) ?_
                    | refine tw_pick_f (by exact rfl) (by exact rfl) (by exact rfl) (by exact rfl) (by exact rfl) (by exact fun _ h => h) ?_
                    | (refine t_case (by exact rfl) (by exact rfl) (fun h => ?_) (fun h => ?_) <;> try (exfalso; omega))
                    | refine t_skip (by exact rfl) (by exact rfl) (by exact rfl) (by exact rfl) (by exact fun _ h => h) ?_
                    | refine t_skipl (by exact rfl) (by exact rfl) (by exact rfl) (by exact rfl) (by exact fun _ h => h) ?_)
              repeat' first
                | refine k_then ?_
              exact j_end hk () [0, 0, 0, 0] (by exact rfl) (by rw [htwb, htw]; exact ⟨rfl, rfl, rfl, rfl, rfl, rfl, rfl, rfl, rfl, trivial⟩)
            | succ p =>
              obtain ⟨q, hq⟩ : ∃ q, g[p]? = some q := ⟨_, List.getElem?_eq_getElem (by omega)⟩
              have hgq : g.getD (p + 1 - 1) (0, 0, 0) = q := by rw [List.getD_eq_getElem?_getD, Nat.add_sub_cancel, hq]; rfl
              have hkk : ((p + 1 : Nat) : Int) - 1 = (p : Int) := by omega
              have hQ2 : ((esV g).drop ((((p + 1 : Nat) : Int) - 1).toNat * 3)).take 3 = eV q := by rw [hkk]; exact esV_at hq
              rw [hgq, decide_eq_true (by omega), Bool.true_and] at htw
              refine p_begin0 [(0, true), (1, true), (2, true), (3, true), (4, true), (5, true), (6, true), (7, true), (8, true), (9, true), (10, true), (11, true), (12, false), (13, true), (14, true), (15, true), (16, true)] (by kernel_rfl) ?_
              repeat' first
                | (refine p_at (by exact rfl) ?_
                   first
                    | refine t_move (by exact rfl) (by exact rfl) (by exact fun _ h => h) ?_
                    | refine tw_move (by exact rfl) (by exact rfl) (by exact rfl) (by exact rfl) (by exact fun _ h => h) ?_
                    | refine tw_fa (by exact rfl) (by exact rfl) (by exact rfl) (by exact rfl) (by exact fun _ h => h) ?_
                    | refine tw_ld_box (by exact rfl) (by exact rfl) (by exact rfl) (by exact rfl) (by exact .tail _ (.head _)) (by exact rfl) (by exact fun _ h => h) ?_
                    | refine tw_gtr (by exact rfl) (by exact rfl) (by exact rfl) (by exact rfl) (by exact rfl) (by exact fun _ h => h) ?_
                    | refine tw_sub (by exact rfl) (by exact rfl) (by exact rfl) (by exact rfl) (by exact rfl) (by omega) (by exact fun _ h => h) ?_
                    | refine tw_idxi (by exact rfl) (by exact rfl) (by exact rfl) (by exact rfl) (by exact rfl) (by assumption) (by first | assumption | omega) (by exact fun _ h => h) ?_
                    | refine tw_ldk_box (by exact rfl) (by exact rfl) (by exact rfl) (by exact rfl) (by exact .tail _ (.tail _ (.tail _ (.head _)))) (by exact rfl) (by exact rfl) (by exact fun _ h => h) ?_
                    | refine tw_ldk_row (by exact rfl) (by exact rfl) (by exact rfl) (by exact rfl) (by exact .head _) (by decide) (by assumption) (by exact rfl) (by exact fun _ h => h) ?_
                    | (refine t_case (by exact rfl) (by exact rfl) (fun h => ?_) (fun h => ?_) <;> try (exfalso; omega)))
              refine p_callw (vs := [.agg (eV q).toArray, .agg (eV x).toArray]) (by exact rfl) (by exact rfl) (by exact rfl) rfl (by exact rfl) (fun w hs => below_ok q x w) (by exact fun _ h => h) ?_
              repeat' first
                | refine p_nil ?_
                | (refine p_at (by exact rfl) ?_
                   first
                    | refine t_assign (by exact rfl) (by exact rfl) (by exact fun _ h => h) ?_
                    | refine t_pick_f (by exact rfl) (by exact rfl) (by exact rfl) (by exact fun _ h => h) ?_
                    | refine tw_not (by exact rfl) (by exact rfl) (by exact rfl) (by exact rfl) (by exact fun _ h => h) ?_
                    | refine tw_pick_t (by exact rfl) (by exact rfl) (by exact rfl) (by exact rfl) (by exact rfl) (by exact fun _ h => h) ?_)
              repeat' first
                | refine k_then ?_
              exact j_end hk () [0, 0, 0, 0] (by exact rfl) (by rw [htwb, htw]; exact ⟨rfl, rfl, rfl, rfl, rfl, rfl, rfl, rfl, rfl, trivial⟩)
          · refine p_begin0 [(0, true), (1, true), (2, true), (3, true), (4, true), (5, true), (6, true), (7, true), (8, true), (9, true), (10, true), (11, true), (12, false), (13, true), (14, true), (15, true), (16, true)] (by kernel_rfl) ?_
            repeat' first
              | refine p_nil ?_
              | (refine p_at (by exact rfl) ?_
                 first
                  | refine t_move (by exact rfl) (by exact rfl) (by exact fun _ h => h) ?_
                  | refine t_assign (by exact rfl) (by exact rfl) (by exact fun _ h => h) ?_
                  | refine t_pick_t (by exact rfl) (by exact rfl) (by exact rfl) (by exact fun _ h => h) ?_
                  | refine t_skip (by exact rfl) (by exact rfl) (by exact rfl) (by exact rfl) (by exact fun _ h => h) ?_
                  | refine t_skipl (by exact rfl) (by exact rfl) (by exact rfl) (by exact rfl) (by exact fun _ h => h) ?_)
            repeat' first
              | refine k_then ?_
            exact j_end hk () [0, 0, 0, 0] (by exact rfl) (by rw [htwb]; exact ⟨rfl, rfl, rfl, rfl, rfl, rfl, rfl, rfl, rfl, trivial⟩)
        have n1 := esV_one (g.take p)
        have n2 := esV_one (g.drop p)
        have g1 : (esV (g.take p)).length = p * 3 := by rw [esV_length, List.length_take, Nat.min_eq_left hple]
        have g2 : (esV (g.drop p)).length = (g.length - p) * 3 := by rw [esV_length, List.length_drop]
        have hh1 := hvg.cut (sz := 3) (a := 0) (b := p) (Nat.zero_le _) hple
        have hh2 := hvg.cut (sz := 3) (a := p) (b := g.length) hple (Nat.le_refl _)
        have e1 : ((esV g).drop (0 * 3)).take ((p - 0) * 3) = esV (g.take p) := by rw [Nat.zero_mul, List.drop_zero, Nat.sub_zero, esV_take]
        have e2 : ((esV g).drop (p * 3)).take ((g.length - p) * 3) = esV (g.drop p) := by rw [esV_drop, List.take_of_length_le (by rw [g2]; omega)]
        refine p_begin2 [(1, true), (2, true), (3, true), (4, true), (6, true), (9, true), (10, true), (11, true), (12, true), .tree (.two 0 (.two 5 (.one 7 .leaf) 7 (.one 5 .leaf)) 7 (.one 0 (.one 5 .leaf))), (8, false), (13, false)] [(14, true), (15, false)] [rowHP vg 47 3 g.length (esV g), boxHP b7 24 [.int .i64 n, vg], boxHP b4 24 [.int .i64 0, .slice none 0 0], boxHP b10 47 (eV x)] (by kernel_rfl) ?_
        repeat' first
          | (refine p_at (by exact rfl) ?_
             first
              | refine t_move (by exact rfl) (by exact rfl) (by exact fun _ h => h) ?_
              | refine t_fa (by exact rfl) (by exact rfl) (by exact fun _ h => h) ?_
              | refine t_ld_box (by exact rfl) (by exact rfl) (by exact .tail _ (.head _)) (by exact rfl) (by exact fun _ h => h) ?_
              | refine t_ldk_box (by exact rfl) (by exact rfl) (by exact .tail _ (.tail _ (.tail _ (.head _)))) (by exact rfl) (by exact rfl) (by exact fun _ h => h) ?_
              | refine t_cut_lo (by exact rfl) (by exact rfl) (by exact rfl) (by assumption) (by omega) (by exact fun _ h => h) ?_
              | refine t_cut_hi (by exact rfl) (by exact rfl) (by exact rfl) (by assumption) (by omega) (by exact fun _ h => h) ?_)
        refine p_join (X := Value × Value) [(8, false), (13, false)] (fun y => [(90, y.1), (92, y.2), (97, cutV vg 3 p g.length), (0, .int .i64 n), (1, vl), (4, .pointer (some ⟨b4, 0, none⟩)), (5, .int .i64 0), (7, .pointer (some ⟨b7, 0, none⟩)), (8, .bool (tw || twE g x)), (9, .int .i64 (i : Int))]) (fun y => [rowHP y.1 47 3 (0 + (p - 0)) ([] ++ esV (g.take p)), rowHP y.2 47 3 1 (eV x), rowHP vg 47 3 g.length (esV g), boxHP b7 24 [.int .i64 n, vg], boxHP b4 24 [.int .i64 0, .slice none 0 0], boxHP b10 47 (eV x)]) (fun hk => ?_) ?_
        · refine p_two ?_ ?_
          · refine p_mk0 (by exact rfl) (by exact rfl) (fun _ _ h => h.tl) fun v0 hv0 => ?_
            refine p_two ?_ ?_
            · refine p_append_rd (bytes := 24) (j := 0) (c := p - 0) (fun w h => rd_cut (sz := 3) (a := 0) (b := p) (.tail _ (.head _)) (Nat.zero_le _) hple w h) (by exact rfl) (by exact rfl) (by exact rfl) (by exact rfl) (by exact rfl) hh1 (by rw [e1, g1, Nat.sub_zero]) (by rw [e1]; exact n1) (by omega) (fun _ _ h => h.tl) fun v1 hv1 => ?_
              rw [e1]
              refine p_one ?_
              refine p_mk (sz := 3) [.agg (eV x).toArray] (by exact rfl) (by exact rfl) (by exact rfl) rfl (by simp [Value.cells, eV]) (by simp) (by simp) (fun _ _ h => h.tl.tl) fun v2 hv2 => ?_
              refine p_leaf ?_
              exact pj_end hk (v1, v2) [1, 0, 0, 0, 0, 0] (by exact rfl) ⟨rfl, rfl, rfl, rfl, rfl, rfl, rfl, rfl, rfl, rfl, trivial⟩
            · refine p_mk (sz := 3) [.agg (eV x).toArray] (by exact rfl) (by exact rfl) (by exact rfl) rfl (by simp [Value.cells, eV]) (by simp) (by simp) (fun _ _ h => h.tl.tl) fun v2 hv2 => ?_
              refine p_one ?_
              refine p_append_rd (bytes := 24) (j := 1) (c := p - 0) (fun w h => rd_cut (sz := 3) (a := 0) (b := p) (.tail _ (.tail _ (.head _))) (Nat.zero_le _) hple w h) (by exact rfl) (by exact rfl) (by exact rfl) (by exact rfl) (by exact rfl) hh1 (by rw [e1, g1, Nat.sub_zero]) (by rw [e1]; exact n1) (by omega) (fun _ _ h => h.tl.tl) fun v1 hv1 => ?_
              rw [e1]
              refine p_leaf ?_
              exact pj_end hk (v1, v2) [1, 0, 0, 0, 0, 0] (by exact rfl) ⟨rfl, rfl, rfl, rfl, rfl, rfl, rfl, rfl, rfl, rfl, trivial⟩
          · refine p_mk (sz := 3) [.agg (eV x).toArray] (by exact rfl) (by exact rfl) (by exact rfl) rfl (by simp [Value.cells, eV]) (by simp) (by simp) (fun _ _ h => h.tl) fun v2 hv2 => ?_
            refine p_one ?_
            refine p_mk0 (by exact rfl) (by exact rfl) (fun _ _ h => h.tl.tl) fun v0 hv0 => ?_
            refine p_one ?_
            refine p_append_rd (bytes := 24) (j := 0) (c := p - 0) (fun w h => rd_cut (sz := 3) (a := 0) (b := p) (.tail _ (.tail _ (.head _))) (Nat.zero_le _) hple w h) (by exact rfl) (by exact rfl) (by exact rfl) (by exact rfl) (by exact rfl) hh1 (by rw [e1, g1, Nat.sub_zero]) (by rw [e1]; exact n1) (by omega) (fun _ _ h => h.tl.tl) fun v1 hv1 => ?_
            rw [e1]
            refine p_leaf ?_
            exact pj_end hk (v1, v2) [0, 0, 0, 0, 0, 0] (by exact rfl) ⟨rfl, rfl, rfl, rfl, rfl, rfl, rfl, rfl, rfl, rfl, trivial⟩
        rintro ⟨v1, v2⟩
        dsimp only
        refine p_append_row (bytes := 24) (j := 0) (by exact rfl) (by exact rfl) (by exact rfl) (by exact rfl) (by exact rfl) (.tail _ (.head _)) (by simp [eV]) (eV_one x) (by omega) (fun _ _ h => h.tl.tl) (fun v3 hv3 => ?_)
        refine p_append_rd (bytes := 24) (j := 0) (c := g.length - p) (fun w h => rd_cut (sz := 3) (a := p) (b := g.length) (.tail _ (.tail _ (.head _))) hple (Nat.le_refl _) w h) (by exact rfl) (by exact rfl) (by exact rfl) (by exact rfl) (by exact rfl) hh2 (by rw [e2, g2]) (by rw [e2]; exact n2) (by omega) (fun _ _ h => h.tl.tl) fun v4 hv4 => ?_
        rw [e2]
        refine p_nil ?_
        refine p_cut [boxHP b4 24 [.int .i64 0, .slice none 0 0]] (fun _ h => h.pick [4] (by exact rfl)) ?_
        refine p_at (by exact rfl) ?_
        refine t_fa (by exact rfl) (by exact rfl) (fun _ h => h.pick [4] (by exact rfl)) ?_
        refine p_st_box (j := 3) (by exact rfl) (by exact rfl) (by exact rfl) (by exact rfl) hv4.one (by simp) (fun _ h => h.pick [4] (by exact rfl)) ?_
        refine p_nil ?_
        repeat' first
          | refine k_then ?_
          | refine c_region ?_
          | refine s_nil ?_
          | refine s_move (by exact rfl) (by exact rfl) ?_
          | refine s_assign (by exact rfl) (by exact rfl) ?_
          | refine s_add (by exact rfl) (by exact rfl) (by exact rfl) (by omega) ?_
          | refine k_blk ?_
        refine c_round (i + 1, insE g x, (tw || twE g x), v4) [0, 2, 2] ?_ ⟨rfl, rfl, rfl, rfl, rfl, rfl, rfl, trivial⟩ ⟨by dsimp only; omega, by dsimp only; rw [insE_length, hgl], hmk⟩ (by dsimp only; omega)
        dsimp only
        rw [insE_length, hins, esV_append, esV_append, show g.length + 1 = 0 + (p - 0) + 1 + (g.length - p) by omega]
        rfl
      · rw [if_neg ha] at hmk
        repeat' first
          | refine k_then ?_
          | refine c_seq ?_
          | refine c_region ?_
          | refine s_nil ?_
          | refine s_move (by exact rfl) (by exact rfl) ?_
          | refine s_assign (by exact rfl) (by exact rfl) ?_
          | refine s_neq (by exact rfl) (by exact rfl) (by exact rfl) ?_
          | (refine c_cond_p (by exact rfl) (fun h => ?_) (fun h => ?_) <;> try (exfalso; omega))
        refine o_build (cs := [.int .i64 0, .slice none 0 0]) [] (by exact rfl) (by exact rfl) (by simp) (by exact rfl) ?_
        repeat' first
          | refine s_move (by exact rfl) (by exact rfl) ?_
        refine o_stk_box (i := 3) (us := [.int .i64 0, .slice none 0 0]) (by exact rfl) (by exact rfl) (by exact rfl) (by exact rfl) (by exact rfl) (by simp [Value.oneCell']) (by simp [Value.cells]) ?_
        repeat' first
          | refine k_then ?_
          | refine s_nil ?_
          | refine s_assign (by exact rfl) (by exact rfl) ?_
          | refine c_ret ?_
          | refine k_then_ret ?_
          | refine k_blk_ret ?_
        refine c_pick [3] (by exact rfl) ?_
        refine c_nil 47 3 ?_
        refine retL [.cell 4 24, .tmp 5] [.agg #[.int .i64 0, .slice none 0 0], .int .i64 (aloneK n e.1 e.2.1 e.2.2)] [0] rfl ⟨res_cellk (cs := [.int .i64 0, .slice none 0 0]) (k := 2) (off := 0) (us := [.int .i64 0, .slice none 0 0]) rfl (.tail _ (.head _)) rfl rfl, res_tmp rfl, trivial⟩ (by exact rfl) ⟨.slice none 0 0, ?_, ?_⟩
        · rw [← hmk]; simp only [if_neg ha]; rfl
        · rw [← hmk]; rfl
    · have hil2 : i = l.length := by omega
      rw [hil2, List.drop_of_length_le (Nat.le_refl _), makeF] at hmk
      refine know_row (v := vg) (.head _) fun hvg _ => ?_
      cases tw
      · rw [if_neg (by simp)] at hmk
        repeat' first
          | refine k_then ?_
          | refine c_seq ?_
          | refine c_region ?_
          | refine s_nil ?_
          | refine s_move (by exact rfl) (by exact rfl) ?_
          | refine s_lss (by exact rfl) (by exact rfl) (by exact rfl) ?_
          | refine s_len (by exact rfl) (by exact rfl) (by assumption) ?_
          | refine s_ldk_box (by exact rfl) (by exact rfl) (by exact .tail _ (.head _)) (by exact rfl) (by exact rfl) ?_
          | refine c_skip ?_
          | refine c_exit ?_
          | refine k_then_exit ?_
          | refine k_blk_eq ?_
          | (refine c_cond_p (by exact rfl) (fun h => ?_) (fun h => ?_) <;> try (exfalso; omega))
          | refine c_cond_f (by exact rfl) ?_
        refine o_stk_box (i := 2) (us := [.int .i64 n, vg]) (by exact rfl) (by exact rfl) (by exact rfl) (by exact rfl) (by exact rfl) (by
          intro u hu
          simp only [List.mem_cons, List.not_mem_nil, or_false] at hu
          rcases hu with rfl | rfl
          · rfl
          · exact hvg.one) (by simp) ?_
        repeat' first
          | refine k_then ?_
          | refine s_nil ?_
          | refine s_assign (by exact rfl) (by exact rfl) ?_
          | refine c_ret ?_
        refine retL [.cell 4 24, .tmp 5] [.agg #[.int .i64 n, vg], .int .i64 0] [0] rfl ⟨res_cellk (cs := [.int .i64 n, vg]) (k := 2) (off := 0) (us := [.int .i64 n, vg]) rfl (.tail _ (.tail _ (.head _))) rfl rfl, res_tmp rfl, trivial⟩ (by exact rfl) ⟨vg, ?_, ?_⟩
        · rw [← hmk]; rfl
        · rw [← hmk]
      · rw [if_pos rfl] at hmk
        repeat' first
          | refine k_then ?_
          | refine c_seq ?_
          | refine c_region ?_
          | refine s_nil ?_
          | refine s_move (by exact rfl) (by exact rfl) ?_
          | refine s_lss (by exact rfl) (by exact rfl) (by exact rfl) ?_
          | refine s_len (by exact rfl) (by exact rfl) (by assumption) ?_
          | refine c_exit ?_
          | refine k_then_exit ?_
          | refine k_blk_eq ?_
          | (refine c_cond_p (by exact rfl) (fun h => ?_) (fun h => ?_) <;> try (exfalso; omega))
          | refine c_cond_t (by exact rfl) ?_
        refine o_build (cs := [.int .i64 0, .slice none 0 0]) [] (by exact rfl) (by exact rfl) (by simp) (by exact rfl) ?_
        skip
        refine o_stk_box (i := 2) (us := [.int .i64 0, .slice none 0 0]) (by exact rfl) (by exact rfl) (by exact rfl) (by exact rfl) (by exact rfl) (by simp [Value.oneCell']) (by simp [Value.cells]) ?_
        repeat' first
          | refine k_then ?_
          | refine s_nil ?_
          | refine s_assign (by exact rfl) (by exact rfl) ?_
          | refine c_ret ?_
          | refine k_then_ret ?_
        refine c_pick [2] (by exact rfl) ?_
        refine c_nil 47 3 ?_
        refine retL [.cell 4 24, .tmp 5] [.agg #[.int .i64 0, .slice none 0 0], .int .i64 (7)] [0] rfl ⟨res_cellk (cs := [.int .i64 0, .slice none 0 0]) (k := 2) (off := 0) (us := [.int .i64 0, .slice none 0 0]) rfl (.tail _ (.head _)) rfl rfl, res_tmp rfl, trivial⟩ (by exact rfl) ⟨.slice none 0 0, ?_, ?_⟩
        · rw [← hmk]; rfl
        · rw [← hmk]; rfl
  · have hmk : makeR n l = (sizesK n l.length, []) := by rw [makeR, if_neg h0]
    repeat' first
      | refine k_then ?_
      | refine c_seq ?_
      | refine c_region ?_
      | refine s_nil ?_
      | refine s_move (by exact rfl) (by exact rfl) ?_
      | refine s_assign (by exact rfl) (by exact rfl) ?_
      | refine s_neq (by exact rfl) (by exact rfl) (by exact rfl) ?_
      | (refine c_cond_p (by exact rfl) (fun h => ?_) (fun h => ?_) <;> try (exfalso; omega))
    refine o_build (cs := [.int .i64 0, .slice none 0 0]) [] (by exact rfl) (by exact rfl) (by simp) (by exact rfl) ?_
    repeat' first
      | refine s_move (by exact rfl) (by exact rfl) ?_
    refine o_stk_box (i := 0) (us := [.int .i64 0, .slice none 0 0]) (by exact rfl) (by exact rfl) (by exact rfl) (by exact rfl) (by exact rfl) (by simp [Value.oneCell']) (by simp [Value.cells]) ?_
    repeat' first
      | refine k_then ?_
      | refine s_nil ?_
      | refine s_assign (by exact rfl) (by exact rfl) ?_
      | refine c_ret ?_
      | refine k_then_ret ?_
    refine c_pick [0] (by exact rfl) ?_
    refine c_nil 47 3 ?_
    refine retL [.cell 4 24, .tmp 5] [.agg #[.int .i64 0, .slice none 0 0], .int .i64 (sizesK n l.length)] [0] rfl ⟨res_cellk (cs := [.int .i64 0, .slice none 0 0]) (k := 2) (off := 0) (us := [.int .i64 0, .slice none 0 0]) rfl (.tail _ (.head _)) rfl rfl, res_tmp rfl, trivial⟩ (by exact rfl) ⟨.slice none 0 0, ?_, ?_⟩
    · rw [hmk]; simp only [if_neg h0]; rfl
    · rw [hmk]; rfl
end Go.Proofs.Ytkekpgkacjpjnaa
end
section
namespace Fil
def okIn (n : Int) (l : List Int) : Prop := (∀ x ∈ l, 0 ≤ x ∧ x < n) ∧ l.Pairwise fun a b => a < b
def indP (es : List E) (l : List Int) : Prop := ∀ e ∈ es, ¬ (e.1 ∈ l ∧ e.2.1 ∈ l)
instance (n : Int) (l : List Int) : Decidable (okIn n l) := by unfold okIn; infer_instance
instance (es : List E) (l : List Int) : Decidable (indP es l) := by unfold indP; infer_instance
def indK (n : Int) (es : List E) (l : List Int) : Int := if rightK n es = 0 then (if okIn n l ∧ indP es l then 0 else 13) else 1
theorem okIn_next {n : Int} {l : List Int} {k : Nat} {x : Int} (h : okIn n (l.take k)) (hx : l[k]? = some x) (h0 : 0 ≤ x) (h1 : x < n) (hp : ∀ j y, k = j + 1 → l[j]? = some y → y < x) : okIn n (l.take (k + 1)) := by
  rw [List.take_add_one, hx]
  refine ⟨fun y hy => ?_, List.pairwise_append.2 ⟨h.2, by simp, fun a ha b hb => ?_⟩⟩
  · rcases List.mem_append.1 hy with hy | hy
    · exact h.1 y hy
    · obtain rfl : y = x := by simpa using hy
      exact ⟨h0, h1⟩
  · obtain rfl : b = x := by simpa using hb
    cases k with
    | zero => simp at ha
    | succ j =>
      have hkl := (List.getElem?_eq_some_iff.1 hx).1
      obtain ⟨y, hy⟩ : ∃ y, l[j]? = some y := ⟨_, List.getElem?_eq_getElem (by omega)⟩
      have hyx := hp j y rfl hy
      rw [List.take_add_one, hy] at ha
      rcases List.mem_append.1 ha with ha | ha
      · have h2 := h.2
        rw [List.take_add_one, hy] at h2
        have := (List.pairwise_append.1 h2).2.2 a ha y (by simp)
        omega
      · obtain rfl : a = y := by simpa using ha
        exact hyx
theorem okIn_out {n : Int} {l : List Int} {k : Nat} {x : Int} (hx : l[k]? = some x) (h : x < 0 ∨ n ≤ x) : ¬ okIn n l := fun ho => by
  have := ho.1 x (List.mem_of_getElem? hx)
  omega
theorem okIn_low {n : Int} {l : List Int} {k : Nat} {x y : Int} (hy : l[k]? = some y) (hx : l[k + 1]? = some x) (h : x ≤ y) : ¬ okIn n l := fun ho => by
  obtain ⟨h1, h2⟩ := List.getElem?_eq_some_iff.1 hx
  obtain ⟨h3, h4⟩ := List.getElem?_eq_some_iff.1 hy
  have := List.pairwise_iff_getElem.1 ho.2 k (k + 1) h3 h1 (by omega)
  omega
end Fil
namespace Go.Proofs.Ytkekpgkacjpjnaa
open Go.RowKit Go.Sl Fil
set_option maxRecDepth 100000
set_option maxHeartbeats 8000000
set_option linter.unusedVariables false
set_option linter.unusedSimpArgs false
attribute [local irreducible] Code.wp wpList bodyPost wpQuiet Exit.then Exit.inBlock Post wpAnyH wpOp
theorem refCheck_ok (n : Int) (v vi : Value) (es : List E) (l : List Int) (w : World) (hs : Shp v es.length) (hr : RO w No v (esV es)) (hm : es.length < 4611686018427387904) (hs2 : Shp vi l.length) (hr2 : RO w No vi (iV l)) :
    Calls Try.prog 27 #[.agg #[.int .i64 n, v], vi] w (Post w No (Just (.int .i64 (indK n es l)))) := by
  have hlm := hs2.1
  simp only [maxLen] at hlm
  refine enter0 (vs := [_, _]) Try.func27 rfl Try.ntmps27 rfl ?_
  repeat' first
    | refine k_then ?_
    | refine c_seq ?_
    | refine c_region ?_
    | refine s_nil ?_
    | refine s_assign (by exact rfl) (by exact rfl) ?_
    | refine s_ldk_box (by exact rfl) (by exact rfl) (by exact .head _) (by exact rfl) (by exact rfl) ?_
    | refine o_box (by exact rfl) (by exact rfl) (fun b => ?_)
  refine s_call (by exact rfl) (by exact rfl) (fun w h => refRight_ok n v es w hs (ro_old h hr) hm) ?_
  by_cases hR : rightK n es = 0
  · have hi : indK n es l = if okIn n l ∧ indP es l then 0 else 13 := by rw [indK, if_pos hR]
    rw [hR]
    repeat' first
      | refine k_then ?_
      | refine c_seq ?_
      | refine c_region ?_
      | refine s_nil ?_
      | refine s_assign (by exact rfl) (by exact rfl) ?_
      | refine s_neq (by exact rfl) (by exact rfl) (by exact rfl) ?_
      | refine c_block ?_
      | refine c_skip ?_
      | (refine c_cond_p (by exact rfl) (fun h => ?_) (fun h => ?_) <;> try (exfalso; omega))
    refine c_loop (fun k : Nat => k ≤ l.length ∧ okIn n (l.take k)) (fun k => [(1, vi), (2, .pointer (some ⟨b, 0, none⟩)), (5, .int .i64 (k : Int))]) (fun _ => [boxHP b 24 [.int .i64 n, v]]) (fun k => l.length - k) 0 [0] ⟨by omega, by simp [okIn]⟩ rfl ⟨rfl, rfl, rfl, trivial⟩ ?_
    rintro k ⟨hk, hq⟩
    by_cases hlt : k < l.length
    · obtain ⟨x, hx⟩ : ∃ x, l[k]? = some x := ⟨_, List.getElem?_eq_getElem hlt⟩
      have hcx : (iV l)[k * 1]? = some (.int .i64 x) := by simp [iV, hx]
      by_cases hk0 : k = 0
      · subst hk0
        repeat' first
          | refine k_then ?_
          | refine c_seq ?_
          | refine c_region ?_
          | refine s_nil ?_
          | refine s_move (by exact rfl) (by exact rfl) ?_
          | refine s_lss (by exact rfl) (by exact rfl) (by exact rfl) ?_
          | refine s_len (by exact rfl) (by exact rfl) (by assumption) ?_
          | refine c_block ?_
          | refine c_skip ?_
          | (refine c_cond_p (by exact rfl) (fun h => ?_) (fun h => ?_) <;> try (exfalso; omega))
        refine p_begin0 [(0, true), (1, true), (2, true), (3, true), (4, true), (5, true), (6, true), (7, true), (8, true), (9, true), (10, true), (11, true), (12, true), (13, true), (14, true), (15, true), (16, true), (17, true), (18, true), (19, true), (20, true), (21, true), (22, true), (23, true), (24, true), (25, true), (26, true), (27, true), (28, true), (29, true)] (by kernel_rfl) ?_
        repeat' first
          | refine p_nil ?_
          | (refine p_at (by exact rfl) ?_
             first
              | refine t_move (by exact rfl) (by exact rfl) (by exact fun _ h => h) ?_
              | refine t_lss (by exact rfl) (by exact rfl) (by exact rfl) (by exact fun _ h => h) ?_
              | refine t_idx (by exact rfl) (by exact rfl) (by exact rfl) (by assumption) (by first | assumption | omega) (by exact fun _ h => h) ?_
              | refine t_pick_t (by exact rfl) (by exact rfl) (by exact rfl) (by exact fun _ h => h) ?_
              | refine t_pick_f (by exact rfl) (by exact rfl) (by exact rfl) (by exact fun _ h => h) ?_
              | refine t_ld_ro (by exact rfl) (by exact rfl) (by assumption) (by assumption) (by exact fun _ h => h) ?_
              | refine tw_move (by exact rfl) (by exact rfl) (by exact rfl) (by exact rfl) (by exact fun _ h => h) ?_
              | refine tw_fa (by exact rfl) (by exact rfl) (by exact rfl) (by exact rfl) (by exact fun _ h => h) ?_
              | refine tw_ld_box (by exact rfl) (by exact rfl) (by exact rfl) (by exact rfl) (by exact .head _) (by exact rfl) (by exact fun _ h => h) ?_
              | refine tw_gtr (by exact rfl) (by exact rfl) (by exact rfl) (by exact rfl) (by exact rfl) (by exact fun _ h => h) ?_
              | refine tw_geq (by exact rfl) (by exact rfl) (by exact rfl) (by exact rfl) (by exact rfl) (by exact fun _ h => h) ?_
              | refine tw_idx (by exact rfl) (by exact rfl) (by exact rfl) (by exact rfl) (by exact rfl) (by assumption) (by first | assumption | omega) (by exact fun _ h => h) ?_
              | refine tw_pick_f (by exact rfl) (by exact rfl) (by exact rfl) (by exact rfl) (by exact rfl) (by exact fun _ h => h) ?_
              | refine tw_ld_ro (by exact rfl) (by exact rfl) (by exact rfl) (by exact rfl) (by assumption) (by assumption) (by exact fun _ h => h) ?_
              | (refine t_case (by exact rfl) (by exact rfl) (fun h => ?_) (fun h => ?_) <;> try (exfalso; omega))
              | refine t_skip (by exact rfl) (by exact rfl) (by exact rfl) (by exact rfl) (by exact fun _ h => h) ?_)
        all_goals
          repeat' first
            | refine k_then ?_
            | refine c_seq ?_
            | refine c_region ?_
            | refine s_nil ?_
            | refine s_move (by exact rfl) (by exact rfl) ?_
            | refine s_assign (by exact rfl) (by exact rfl) ?_
            | refine s_add (by exact rfl) (by exact rfl) (by exact rfl) (by omega) ?_
            | refine c_skip ?_
            | refine c_ret ?_
            | refine k_then_ret ?_
            | refine k_blk ?_
            | refine k_blk_ret ?_
            | refine c_cond_t (by exact rfl) ?_
            | refine c_cond_f (by exact rfl) ?_
        all_goals first
          | refine ret1 [] rfl rfl rfl ⟨by rw [hi, if_neg (fun h => okIn_out hx (by omega) h.1)], rfl⟩
          | refine c_round 1 [0] (by exact rfl) (by exact ⟨rfl, rfl, rfl, trivial⟩) ⟨by omega, okIn_next hq hx (by omega) (by omega) (fun j y e _ => by omega)⟩ (by omega)
      · obtain ⟨y, hy⟩ : ∃ y, l[k - 1]? = some y := ⟨_, List.getElem?_eq_getElem (by omega)⟩
        have hcy : (iV l)[((k : Int) - 1).toNat * 1]? = some (.int .i64 y) := by
          rw [show ((k : Int) - 1).toNat * 1 = k - 1 by omega]; simp [iV, hy]
        have hx' : l[(k - 1) + 1]? = some x := by rw [show k - 1 + 1 = k by omega]; exact hx
        repeat' first
          | refine k_then ?_
          | refine c_seq ?_
          | refine c_region ?_
          | refine s_nil ?_
          | refine s_move (by exact rfl) (by exact rfl) ?_
          | refine s_lss (by exact rfl) (by exact rfl) (by exact rfl) ?_
          | refine s_len (by exact rfl) (by exact rfl) (by assumption) ?_
          | refine c_block ?_
          | refine c_skip ?_
          | (refine c_cond_p (by exact rfl) (fun h => ?_) (fun h => ?_) <;> try (exfalso; omega))
        refine p_begin0 [(0, true), (1, true), (2, true), (3, true), (4, true), (5, true), (6, true), (7, true), (8, true), (9, true), (10, true), (11, true), (12, true), (13, true), (14, true), (15, true), (16, true), (17, true), (18, true), (19, true), (20, true), (21, true), (22, true), (23, true), (24, true), (25, true), (26, true), (27, true), (28, true), (29, true)] (by kernel_rfl) ?_
        repeat' first
          | refine p_nil ?_
          | (refine p_at (by exact rfl) ?_
             first
              | refine t_move (by exact rfl) (by exact rfl) (by exact fun _ h => h) ?_
              | refine t_lss (by exact rfl) (by exact rfl) (by exact rfl) (by exact fun _ h => h) ?_
              | refine t_idx (by exact rfl) (by exact rfl) (by exact rfl) (by assumption) (by first | assumption | omega) (by exact fun _ h => h) ?_
              | refine t_pick_t (by exact rfl) (by exact rfl) (by exact rfl) (by exact fun _ h => h) ?_
              | refine t_pick_f (by exact rfl) (by exact rfl) (by exact rfl) (by exact fun _ h => h) ?_
              | refine t_ld_ro (by exact rfl) (by exact rfl) (by assumption) (by assumption) (by exact fun _ h => h) ?_
              | refine tw_move (by exact rfl) (by exact rfl) (by exact rfl) (by exact rfl) (by exact fun _ h => h) ?_
              | refine tw_fa (by exact rfl) (by exact rfl) (by exact rfl) (by exact rfl) (by exact fun _ h => h) ?_
              | refine tw_ld_box (by exact rfl) (by exact rfl) (by exact rfl) (by exact rfl) (by exact .head _) (by exact rfl) (by exact fun _ h => h) ?_
              | refine tw_gtr (by exact rfl) (by exact rfl) (by exact rfl) (by exact rfl) (by exact rfl) (by exact fun _ h => h) ?_
              | refine tw_geq (by exact rfl) (by exact rfl) (by exact rfl) (by exact rfl) (by exact rfl) (by exact fun _ h => h) ?_
              | refine tw_sub (by exact rfl) (by exact rfl) (by exact rfl) (by exact rfl) (by exact rfl) (by omega) (by exact fun _ h => h) ?_
              | refine tw_idx (by exact rfl) (by exact rfl) (by exact rfl) (by exact rfl) (by exact rfl) (by assumption) (by first | assumption | omega) (by exact fun _ h => h) ?_
              | refine tw_idxi (by exact rfl) (by exact rfl) (by exact rfl) (by exact rfl) (by exact rfl) (by assumption) (by first | assumption | omega) (by exact fun _ h => h) ?_
              | refine tw_pick_t (by exact rfl) (by exact rfl) (by exact rfl) (by exact rfl) (by exact rfl) (by exact fun _ h => h) ?_
              | refine tw_ld_ro (by exact rfl) (by exact rfl) (by exact rfl) (by exact rfl) (by assumption) (by assumption) (by exact fun _ h => h) ?_
              | (refine t_case (by exact rfl) (by exact rfl) (fun h => ?_) (fun h => ?_) <;> try (exfalso; omega))
              | refine t_skip (by exact rfl) (by exact rfl) (by exact rfl) (by exact rfl) (by exact fun _ h => h) ?_)
        all_goals
          repeat' first
            | refine k_then ?_
            | refine c_seq ?_
            | refine c_region ?_
            | refine s_nil ?_
            | refine s_move (by exact rfl) (by exact rfl) ?_
            | refine s_assign (by exact rfl) (by exact rfl) ?_
            | refine s_add (by exact rfl) (by exact rfl) (by exact rfl) (by omega) ?_
            | refine c_skip ?_
            | refine c_ret ?_
            | refine k_then_ret ?_
            | refine k_blk ?_
            | refine k_blk_ret ?_
            | (refine c_cond_p (by exact rfl) (fun h => ?_) (fun h => ?_) <;> try (exfalso; omega))
            | refine c_cond_t (by exact rfl) ?_
        all_goals first
          | refine ret1 [] rfl rfl rfl ⟨by rw [hi, if_neg (fun h => okIn_out hx (by omega) h.1)], rfl⟩
          | refine ret1 [] rfl rfl rfl ⟨by rw [hi, if_neg (fun h => okIn_low hy hx' (by omega) h.1)], rfl⟩
          | refine c_round (k + 1) [0] (by exact rfl) (by exact ⟨rfl, rfl, rfl, trivial⟩) ⟨by omega, okIn_next hq hx (by omega) (by omega) (fun j z e hz => by
              obtain rfl : j = k - 1 := by omega
              rw [hy] at hz
              obtain rfl : y = z := by simpa using hz
              omega)⟩ (by omega)
    · rw [List.take_of_length_le (by omega)] at hq
      repeat' first
        | refine k_then ?_
        | refine c_seq ?_
        | refine c_region ?_
        | refine s_nil ?_
        | refine s_move (by exact rfl) (by exact rfl) ?_
        | refine s_assign (by exact rfl) (by exact rfl) ?_
        | refine s_lss (by exact rfl) (by exact rfl) (by exact rfl) ?_
        | refine s_len (by exact rfl) (by exact rfl) (by assumption) ?_
        | refine c_block ?_
        | refine c_exit ?_
        | refine k_then_exit ?_
        | refine k_blk_eq ?_
        | (refine c_cond_p (by exact rfl) (fun h => ?_) (fun h => ?_) <;> try (exfalso; omega))
      refine c_loop (fun k : Nat => k ≤ es.length ∧ indP (es.take k) l) (fun k => [(1, vi), (2, .pointer (some ⟨b, 0, none⟩)), (6, .int .i64 (k : Int))]) (fun _ => [boxHP b 24 [.int .i64 n, v]]) (fun k => es.length - k) 0 [0] ⟨by omega, by simp [indP]⟩ (by exact rfl) ⟨rfl, rfl, rfl, trivial⟩ ?_
      rintro j ⟨hj, hp⟩
      by_cases hlt2 : j < es.length
      · obtain ⟨e, he⟩ : ∃ e, es[j]? = some e := ⟨_, List.getElem?_eq_getElem hlt2⟩
        obtain ⟨hE0, hE1, hE2⟩ := esV_get he
        repeat' first
          | refine k_then ?_
          | refine c_seq ?_
          | refine c_region ?_
          | refine s_nil ?_
          | refine s_move (by exact rfl) (by exact rfl) ?_
          | refine s_fa (by exact rfl) (by exact rfl) ?_
          | refine s_ld_box (by exact rfl) (by exact rfl) (by exact .head _) (by exact rfl) ?_
          | refine s_lss (by exact rfl) (by exact rfl) (by exact rfl) ?_
          | refine s_len (by exact rfl) (by exact rfl) (by assumption) ?_
          | refine s_idx (by exact rfl) (by exact rfl) (by exact rfl) (by assumption) (by first | assumption | omega) ?_
          | refine s_fap (by exact rfl) (by exact rfl) (by assumption) (by omega) ?_
          | refine s_ld_ro (by exact rfl) (by exact rfl) (by assumption) (by assumption) ?_
          | refine c_block ?_
          | refine c_skip ?_
          | (refine c_cond_p (by exact rfl) (fun h => ?_) (fun h => ?_) <;> try (exfalso; omega))
        refine s_call (by exact rfl) (by exact rfl) (fun w h => Has_ok vi l e.1 w hs2 (ro_old h hr2)) ?_
        by_cases h1 : e.1 ∈ l
        · rw [decide_eq_true h1]
          repeat' first
            | refine s_move (by exact rfl) (by exact rfl) ?_
            | refine w_move (by exact rfl) (by exact rfl) (by exact rfl) (by exact rfl) ?_
            | refine w_fa (by exact rfl) (by exact rfl) (by exact rfl) (by exact rfl) ?_
            | refine w_ld_box (by exact rfl) (by exact rfl) (by exact rfl) (by exact rfl) (by exact .head _) (by exact rfl) ?_
            | refine w_idx (by exact rfl) (by exact rfl) (by exact rfl) (by exact rfl) (by exact rfl) (by assumption) (by first | assumption | omega) ?_
            | refine w_fap (by exact rfl) (by exact rfl) (by exact rfl) (by exact rfl) (by assumption) (by omega) ?_
            | refine w_ld_ro (by exact rfl) (by exact rfl) (by exact rfl) (by exact rfl) (by assumption) (by assumption) ?_
            | refine g_on (by exact rfl) (by exact rfl) ?_
          refine s_call (by exact rfl) (by exact rfl) (fun w h => Has_ok vi l e.2.1 w hs2 (ro_old h hr2)) ?_
          by_cases h2 : e.2.1 ∈ l
          · rw [decide_eq_true h2]
            repeat' first
              | refine k_then ?_
              | refine c_seq ?_
              | refine c_region ?_
              | refine s_nil ?_
              | refine s_assign (by exact rfl) (by exact rfl) ?_
              | refine s_pick_t (by exact rfl) (by exact rfl) (by exact rfl) ?_
              | refine c_ret ?_
              | refine k_then_ret ?_
              | refine k_blk_ret ?_
              | refine c_cond_t (by exact rfl) ?_
            refine ret1 [] rfl rfl rfl ⟨by rw [hi, if_neg (fun h => h.2 e (List.mem_of_getElem? he) ⟨h1, h2⟩)], rfl⟩
          · rw [decide_eq_false h2]
            repeat' first
              | refine k_then ?_
              | refine c_region ?_
              | refine s_nil ?_
              | refine s_move (by exact rfl) (by exact rfl) ?_
              | refine s_assign (by exact rfl) (by exact rfl) ?_
              | refine s_add (by exact rfl) (by exact rfl) (by exact rfl) (by omega) ?_
              | refine s_pick_t (by exact rfl) (by exact rfl) (by exact rfl) ?_
              | refine c_skip ?_
              | refine k_blk ?_
              | refine c_cond_f (by exact rfl) ?_
            refine c_round (j + 1) [0] (by exact rfl) (by exact ⟨rfl, rfl, rfl, trivial⟩) ⟨by omega, ?_⟩ (by omega)
            rw [List.take_add_one, he]
            intro a ha
            rcases List.mem_append.1 ha with ha | ha
            · exact hp a ha
            · obtain rfl : a = e := by simpa using ha
              exact fun h => h2 h.2
        · rw [decide_eq_false h1]
          repeat' first
            | refine k_then ?_
            | refine c_region ?_
            | refine s_nil ?_
            | refine s_move (by exact rfl) (by exact rfl) ?_
            | refine s_assign (by exact rfl) (by exact rfl) ?_
            | refine s_add (by exact rfl) (by exact rfl) (by exact rfl) (by omega) ?_
            | refine s_pick_f (by exact rfl) (by exact rfl) (by exact rfl) ?_
            | refine c_skip ?_
            | refine k_blk ?_
            | refine c_cond_f (by exact rfl) ?_
            | refine g_skip (by exact rfl) (by exact rfl) (by exact rfl) (by exact rfl) ?_
          refine c_round (j + 1) [0] (by exact rfl) (by exact ⟨rfl, rfl, rfl, trivial⟩) ⟨by omega, ?_⟩ (by omega)
          rw [List.take_add_one, he]
          intro a ha
          rcases List.mem_append.1 ha with ha | ha
          · exact hp a ha
          · obtain rfl : a = e := by simpa using ha
            exact fun h => h1 h.1
      · rw [List.take_of_length_le (by omega)] at hp
        repeat' first
          | refine k_then ?_
          | refine c_seq ?_
          | refine c_region ?_
          | refine s_nil ?_
          | refine s_move (by exact rfl) (by exact rfl) ?_
          | refine s_assign (by exact rfl) (by exact rfl) ?_
          | refine s_fa (by exact rfl) (by exact rfl) ?_
          | refine s_ld_box (by exact rfl) (by exact rfl) (by exact .head _) (by exact rfl) ?_
          | refine s_lss (by exact rfl) (by exact rfl) (by exact rfl) ?_
          | refine s_len (by exact rfl) (by exact rfl) (by assumption) ?_
          | refine c_exit ?_
          | refine c_ret ?_
          | refine k_then_exit ?_
          | refine k_blk_eq ?_
          | (refine c_cond_p (by exact rfl) (fun h => ?_) (fun h => ?_) <;> try (exfalso; omega))
        refine ret1 [] rfl rfl rfl ⟨by rw [hi, if_pos ⟨hq, hp⟩], rfl⟩
  · repeat' first
      | refine k_then ?_
      | refine c_seq ?_
      | refine c_region ?_
      | refine s_nil ?_
      | refine s_assign (by exact rfl) (by exact rfl) ?_
      | refine s_neq (by exact rfl) (by exact rfl) (by exact rfl) ?_
      | refine c_ret ?_
      | refine k_then_ret ?_
      | (refine c_cond_p (by exact rfl) (fun h => ?_) (fun h => ?_) <;> try (exfalso; omega))
    refine ret1 [] rfl rfl rfl ⟨by rw [indK, if_neg hR], rfl⟩
end Go.Proofs.Ytkekpgkacjpjnaa
end
section
namespace Fil
open Go.Sl
/-- the numbers that were met, as entries -/
def metM (l : List Int) : List (Int × Bool) := l.map fun z => (z, true)
theorem metM_fst (l : List Int) : (metM l).map Prod.fst = l := by simp [metM, Function.comp_def]
theorem metM_put {l : List Int} {x : Int} (h : x ∉ l) : putK (metM l) x true = metM (l ++ [x]) := by
  rw [putK, metM_fst, if_neg h]; simp [metM]
theorem metM_get (l : List Int) (x : Int) : (getK (metM l) x).getD false = decide (x ∈ l) := by
  by_cases h : x ∈ l
  · rw [decide_eq_true h]
    cases hg : getK (metM l) x with
    | none =>
      rw [getK, Option.map_eq_none_iff, List.find?_eq_none] at hg
      exact (hg (x, true) (List.mem_map.2 ⟨x, h, rfl⟩) (by simp)).elim
    | some b =>
      rw [getK, Option.map_eq_some_iff] at hg
      obtain ⟨p, h1, rfl⟩ := hg
      obtain ⟨z, _, rfl⟩ := List.mem_map.1 (List.mem_of_find?_eq_some h1)
      rfl
  · rw [getK_none (by rw [metM_fst]; exact h), decide_eq_false h]; rfl
def lastI (l : List Int) : Nat → Int
  | 0 => -1
  | k + 1 => l.getD k 0
theorem okIn_last {n : Int} {l : List Int} {k : Nat} {x : Int} (h : okIn n (l.take k)) (hx : l[k]? = some x) (h1 : lastI l k < x) (h2 : x < n) : okIn n (l.take (k + 1)) := by
  refine okIn_next h hx ?_ h2 fun j y e hy => ?_
  · cases k with
    | zero => simp only [lastI] at h1; omega
    | succ j =>
      have hkl := (List.getElem?_eq_some_iff.1 hx).1
      obtain ⟨y, hy⟩ : ∃ y, l[j]? = some y := ⟨_, List.getElem?_eq_getElem (by omega)⟩
      simp only [lastI, List.getD_eq_getElem?_getD, hy, Option.getD_some] at h1
      have := (h.1 y (List.mem_take_iff_getElem.2 ⟨j, by omega, (List.getElem?_eq_some_iff.1 hy).2⟩)).1
      omega
  · subst e
    simpa [lastI, List.getD_eq_getElem?_getD, hy] using h1
theorem okIn_bad {n : Int} {l : List Int} {k : Nat} {x : Int} (hx : l[k]? = some x) (h : x ≤ lastI l k) : ¬ okIn n l := by
  cases k with
  | zero => exact okIn_out hx (.inl (by simp only [lastI] at h; omega))
  | succ j =>
    have hkl := (List.getElem?_eq_some_iff.1 hx).1
    obtain ⟨y, hy⟩ : ∃ y, l[j]? = some y := ⟨_, List.getElem?_eq_getElem (by omega)⟩
    exact okIn_low hy hx (by simpa [lastI, List.getD_eq_getElem?_getD, hy] using h)
theorem okIn_notin {n : Int} {l : List Int} {k : Nat} {x : Int} (hx : l[k]? = some x) (h : okIn n (l.take (k + 1))) : x ∉ l.take k := fun hm => by
  have h2 := h.2
  rw [List.take_add_one, hx] at h2
  have := (List.pairwise_append.1 h2).2.2 x hm x (by simp)
  omega
end Fil
namespace Go.Proofs.Ytkekpgkacjpjnaa
open Go.RowKit Go.Sl Fil
set_option maxRecDepth 100000
set_option maxHeartbeats 8000000
set_option linter.unusedVariables false
set_option linter.unusedSimpArgs false
attribute [local irreducible] Code.wp wpList bodyPost wpQuiet Exit.then Exit.inBlock Post wpAnyH wpOp
theorem indexF_ok (v : Value) (es : List E) (f : FuncId) (caps : List Value) (p : E → Bool) (w : World) [FnTy Try.prog f] (hs : Shp v es.length) (hr : RO w No v (esV es))
    (hcl : ∀ (k : Nat) e, es[k]? = some e → ∀ w' S', Mod w No w' S' → Calls Try.prog f ([Value.agg (eV e).toArray] ++ caps).toArray w' (Post w' No (Just (.bool (p e))))) :
    Calls Try.prog 70 #[v, .func (.func f) #[] caps.toArray] w (Post w No (Just (.int .i64 (match es.findIdx? p with | some i => (i : Int) | none => -1)))) := by
  have hm := hs.1
  simp only [maxLen] at hm
  refine enter0 (vs := [_, _]) Try.func70 rfl Try.ntmps70 rfl ?_
  repeat' first
    | refine k_then ?_
    | refine c_seq ?_
    | refine c_region ?_
    | refine s_nil ?_
    | refine s_move (by exact rfl) (by exact rfl) ?_
    | refine s_assign (by exact rfl) (by exact rfl) ?_
    | refine s_len (by exact rfl) (by exact rfl) (by assumption) ?_
    | refine c_block ?_
  refine c_loop (fun k : Nat => k ≤ es.length ∧ ∀ e ∈ es.take k, p e = false) (fun k => [(0, v), (1, .func (.func f) #[] caps.toArray), (6, v), (7, .int .i64 (es.length : Int)), (8, .int .i64 (k : Int))]) (fun _ => []) (fun k => es.length - k) 0 [] ⟨by omega, by simp⟩ rfl ⟨rfl, rfl, rfl, rfl, rfl, trivial⟩ ?_
  rintro k ⟨hk, hq⟩
  by_cases hlt : k < es.length
  · obtain ⟨e, he⟩ : ∃ e, es[k]? = some e := ⟨_, List.getElem?_eq_getElem hlt⟩
    have hE := esV_at he
    repeat' first
      | refine k_then ?_
      | refine c_seq ?_
      | refine c_region ?_
      | refine s_nil ?_
      | refine s_move (by exact rfl) (by exact rfl) ?_
      | refine s_assign (by exact rfl) (by exact rfl) ?_
      | refine s_lss (by exact rfl) (by exact rfl) (by exact rfl) ?_
      | refine s_idx (by exact rfl) (by exact rfl) (by exact rfl) (by assumption) (by first | assumption | omega) ?_
      | refine s_ldk_ro (by exact rfl) (by exact rfl) (by assumption) (by decide) (by assumption) (by exact rfl) ?_
      | refine c_block ?_
      | refine c_skip ?_
      | (refine c_cond_p (by exact rfl) (fun h => ?_) (fun h => ?_) <;> try (exfalso; omega))
    refine s_callv (pre := []) (by exact rfl) (by exact rfl) (by exact rfl) (fun w h => h.mod0.elim fun S' hm => hcl k e he w S' hm) ?_
    cases hp : p e
    · repeat' first
        | refine k_then ?_
        | refine c_region ?_
        | refine s_nil ?_
        | refine s_move (by exact rfl) (by exact rfl) ?_
        | refine s_add (by exact rfl) (by exact rfl) (by exact rfl) (by omega) ?_
        | refine c_skip ?_
        | refine k_blk ?_
        | refine c_cond_f (by exact rfl) ?_
      refine c_round (k + 1) [] (by exact rfl) ⟨rfl, rfl, rfl, rfl, rfl, trivial⟩ ⟨by omega, ?_⟩ (by omega)
      rw [List.take_add_one, he]
      intro a ha
      rcases List.mem_append.1 ha with ha | ha
      · exact hq a ha
      · obtain rfl : a = e := by simpa using ha
        exact hp
    · repeat' first
        | refine k_then ?_
        | refine c_seq ?_
        | refine c_region ?_
        | refine s_nil ?_
        | refine s_move (by exact rfl) (by exact rfl) ?_
        | refine s_assign (by exact rfl) (by exact rfl) ?_
        | refine c_ret ?_
        | refine k_then_ret ?_
        | refine k_blk_ret ?_
        | refine c_cond_t (by exact rfl) ?_
      have hfi : es.findIdx? p = some k := by
        rw [List.findIdx?_eq_some_iff_getElem]
        obtain ⟨h1, h2⟩ := List.getElem?_eq_some_iff.1 he
        refine ⟨h1, by rw [h2]; exact hp, fun j hj => ?_⟩
        rw [hq _ (List.mem_take_iff_getElem.2 ⟨j, by omega, rfl⟩)]
        simp
      refine ret1 [] rfl rfl rfl ⟨by rw [hfi], rfl⟩
  · rw [List.take_of_length_le (by omega)] at hq
    repeat' first
      | refine k_then ?_
      | refine c_seq ?_
      | refine c_region ?_
      | refine s_nil ?_
      | refine s_assign (by exact rfl) (by exact rfl) ?_
      | refine s_lss (by exact rfl) (by exact rfl) (by exact rfl) ?_
      | refine c_exit ?_
      | refine c_ret ?_
      | refine k_then_exit ?_
      | refine k_blk_eq ?_
      | (refine c_cond_p (by exact rfl) (fun h => ?_) (fun h => ?_) <;> try (exfalso; omega))
    refine ret1 [] rfl rfl rfl ⟨by rw [List.findIdx?_eq_none_iff.2 hq], rfl⟩
theorem containsF_ok (v : Value) (es : List E) (f : FuncId) (caps : List Value) (p : E → Bool) (w : World) [FnTy Try.prog f] (hs : Shp v es.length) (hr : RO w No v (esV es))
    (hcl : ∀ (k : Nat) e, es[k]? = some e → ∀ w' S', Mod w No w' S' → Calls Try.prog f ([Value.agg (eV e).toArray] ++ caps).toArray w' (Post w' No (Just (.bool (p e))))) :
    Calls Try.prog 49 #[v, .func (.func f) #[] caps.toArray] w (Post w No (Just (.bool (es.any p)))) := by
  refine enter0 (vs := [_, _]) Try.func49 rfl Try.ntmps49 rfl ?_
  repeat' first
    | refine k_then ?_
    | refine c_seq ?_
    | refine c_region ?_
    | refine s_nil ?_
    | refine s_move (by exact rfl) (by exact rfl) ?_
    | refine s_assign (by exact rfl) (by exact rfl) ?_
  refine s_call (by exact rfl) (by exact rfl) (fun w h => h.mod0.elim fun S' hm => indexF_ok v es f caps p w hs (ro_old h hr) fun k e he w' S2 hm2 => hcl k e he w' _ (mod_trans0 hm hm2)) ?_
  repeat' first
    | refine k_then ?_
    | refine s_nil ?_
    | refine s_assign (by exact rfl) (by exact rfl) ?_
    | refine s_geq (by exact rfl) (by exact rfl) (by exact rfl) ?_
    | refine c_ret ?_
  refine ret1 [] rfl rfl rfl ⟨congrArg Value.bool ?_, rfl⟩
  cases h : es.findIdx? p with
  | none =>
    have := List.findIdx?_eq_none_iff.1 h
    rw [List.any_eq_false.2 (fun x hx => by rw [this x hx]; simp)]
    simp
  | some i =>
    obtain ⟨h1, h2, _⟩ := List.findIdx?_eq_some_iff_getElem.1 h
    rw [List.any_eq_true.2 ⟨_, List.getElem_mem h1, h2⟩]
    simp
theorem check1_ok (e : E) (c : Nat) (vm : Value) (l : List Int) (w : World) (h1 : okI e.1) (h2 : okI e.2.1) (hc : RB w No c 64 [vm]) (hm : RM ekI Value.bool okI w No vm (metM l)) :
    Calls Try.prog 50 #[.agg (eV e).toArray, .pointer (some ⟨c, 0, none⟩)] w (Post w No (Just (.bool (decide (e.1 ∈ l) && decide (e.2.1 ∈ l))))) := by
  refine enter0 (vs := [_, _]) Try.func50 rfl Try.ntmps50 rfl ?_
  have g1 := metM_get l e.1
  have g2 := metM_get l e.2.1
  generalize decide (e.1 ∈ l) = p1 at *
  generalize decide (e.2.1 ∈ l) = p2 at *
  cases p1
  · repeat' first
      | refine k_then ?_
      | refine c_seq ?_
      | refine c_region ?_
      | refine s_nil ?_
      | refine s_move (by exact rfl) (by exact rfl) ?_
      | refine s_assign (by exact rfl) (by exact rfl) ?_
      | refine s_fa (by exact rfl) (by exact rfl) ?_
      | refine s_ld_box (by exact rfl) (by exact rfl) (by exact .head _) (by exact rfl) ?_
      | refine s_look_ro (by exact rfl) (by exact rfl) (by exact rfl) (by assumption) (by exact rfl) (by assumption) (by first | exact ⟨by omega, by omega⟩ | exact ⟨⟨by omega, by omega⟩, by omega, by omega⟩) ?_
      | refine s_pick_f (by exact rfl) (by exact rfl) (by exact rfl) ?_
      | refine s_ld_rb (by exact rfl) (by exact rfl) (by assumption) (by exact rfl) ?_
      | refine o_box (by exact rfl) (by exact rfl) (fun b => ?_)
      | refine c_ret ?_
      | refine g_skip (by exact rfl) (by exact rfl) (by exact rfl) (by exact rfl) ?_
    refine ret1 [] rfl rfl rfl ⟨rfl, rfl⟩
  · repeat' first
      | refine k_then ?_
      | refine c_seq ?_
      | refine c_region ?_
      | refine s_nil ?_
      | refine s_move (by exact rfl) (by exact rfl) ?_
      | refine s_assign (by exact rfl) (by exact rfl) ?_
      | refine s_fa (by exact rfl) (by exact rfl) ?_
      | refine s_ld_box (by exact rfl) (by exact rfl) (by exact .head _) (by exact rfl) ?_
      | refine s_look_ro (by exact rfl) (by exact rfl) (by exact rfl) (by assumption) (by exact rfl) (by assumption) (by first | exact ⟨by omega, by omega⟩ | exact ⟨⟨by omega, by omega⟩, by omega, by omega⟩) ?_
      | refine s_pick_t (by exact rfl) (by exact rfl) (by exact rfl) ?_
      | refine s_ld_rb (by exact rfl) (by exact rfl) (by assumption) (by exact rfl) ?_
      | refine o_box (by exact rfl) (by exact rfl) (fun b => ?_)
      | refine c_ret ?_
      | refine w_fa (by exact rfl) (by exact rfl) (by exact rfl) (by exact rfl) ?_
      | refine w_ld_box (by exact rfl) (by exact rfl) (by exact rfl) (by exact rfl) (by exact .head _) (by exact rfl) ?_
      | refine w_look_ro (by exact rfl) (by exact rfl) (by exact rfl) (by exact rfl) (by exact rfl) (by assumption) (by exact rfl) (by assumption) (by first | exact ⟨by omega, by omega⟩ | exact ⟨⟨by omega, by omega⟩, by omega, by omega⟩) ?_
      | refine w_ld_rb (by exact rfl) (by exact rfl) (by exact rfl) (by exact rfl) (by assumption) (by exact rfl) ?_
    refine ret1 [] rfl rfl rfl ⟨rfl, rfl⟩
theorem Check_ok (n : Int) (v vi : Value) (es : List E) (l : List Int) (w : World) (hs : Shp v es.length) (hr : RO w No v (esV es)) (hm : es.length < 4611686018427387904) (hs2 : Shp vi l.length) (hr2 : RO w No vi (iV l)) :
    Calls Try.prog 26 #[.agg #[.int .i64 n, v], vi] w (Post w No (Just (.int .i64 (indK n es l)))) := by
  have hlm := hs2.1
  simp only [maxLen] at hlm
  refine enter0 (vs := [_, _]) Try.func26 rfl Try.ntmps26 rfl ?_
  repeat' first
    | refine k_then ?_
    | refine c_seq ?_
    | refine c_region ?_
    | refine s_nil ?_
    | refine s_assign (by exact rfl) (by exact rfl) ?_
    | refine s_ldk_box (by exact rfl) (by exact rfl) (by exact .head _) (by exact rfl) (by exact rfl) ?_
    | refine o_box (by exact rfl) (by exact rfl) (fun b => ?_)
  refine s_call (by exact rfl) (by exact rfl) (fun w h => Right_ok n v es w hs (ro_old h hr) hm) ?_
  by_cases hR0 : rightK n es = 0
  · have hi : indK n es l = if okIn n l ∧ indP es l then 0 else 13 := by rw [indK, if_pos hR0]
    have hR := right_iff.1 hR0
    have hhi := hR.hi
    rw [hR0]
    repeat' first
      | refine k_then ?_
      | refine c_seq ?_
      | refine c_region ?_
      | refine s_nil ?_
      | refine s_assign (by exact rfl) (by exact rfl) ?_
      | refine s_neq (by exact rfl) (by exact rfl) (by exact rfl) ?_
      | refine c_skip ?_
      | (refine c_cond_p (by exact rfl) (fun h => ?_) (fun h => ?_) <;> try (exfalso; omega))
    refine o_makeMap (by exact rfl) fun bm => ?_
    repeat' first
      | refine o_alloc (by exact rfl) (fun b => ?_)
    rename_i b1
    refine o_st_box (i := 0) (by exact rfl) (by exact rfl) (by exact rfl) rfl (by simp [Value.cells]) ?_
    repeat' first
      | refine k_then ?_
      | refine c_seq ?_
      | refine c_region ?_
      | refine s_nil ?_
      | refine s_move (by exact rfl) (by exact rfl) ?_
      | refine s_len (by exact rfl) (by exact rfl) (by assumption) ?_
      | refine c_block ?_
    refine c_loop (fun k : Nat => k ≤ l.length ∧ okIn n (l.take k)) (fun k => [(2, .pointer (some ⟨b1, 0, none⟩)), (5, .int .i64 (lastI l k)), (6, .pointer (some ⟨b, 0, none⟩)), (13, vi), (14, .int .i64 (l.length : Int)), (15, .int .i64 (k : Int))])
      (fun k => [boxHP b 64 [.map (some bm)], mapHP ekI Value.bool okI (.map (some bm)) (metM (l.take k)), boxHP b1 24 [.int .i64 n, v]]) (fun k => l.length - k) 0 [0, 0, 0] ⟨by omega, by simp [okIn]⟩ (by exact rfl) ⟨rfl, rfl, rfl, rfl, rfl, rfl, trivial⟩ ?_
    rintro k ⟨hk, hq⟩
    by_cases hlt : k < l.length
    · obtain ⟨x, hx⟩ : ∃ x, l[k]? = some x := ⟨_, List.getElem?_eq_getElem hlt⟩
      have hcx : (iV l)[k * 1]? = some (.int .i64 x) := by simp [iV, hx]
      by_cases hlow : x ≤ lastI l k
      · repeat' first
          | refine k_then ?_
          | refine c_seq ?_
          | refine c_region ?_
          | refine s_nil ?_
          | refine s_move (by exact rfl) (by exact rfl) ?_
          | refine s_assign (by exact rfl) (by exact rfl) ?_
          | refine s_lss (by exact rfl) (by exact rfl) (by exact rfl) ?_
          | refine s_leq (by exact rfl) (by exact rfl) (by exact rfl) ?_
          | refine s_idx (by exact rfl) (by exact rfl) (by exact rfl) (by assumption) (by first | assumption | omega) ?_
          | refine s_pick_t (by exact rfl) (by exact rfl) (by exact rfl) ?_
          | refine s_ld_ro (by exact rfl) (by exact rfl) (by assumption) (by assumption) ?_
          | refine c_block ?_
          | refine c_skip ?_
          | refine c_ret ?_
          | refine k_then_ret ?_
          | refine k_blk_ret ?_
          | (refine c_cond_p (by exact rfl) (fun h => ?_) (fun h => ?_) <;> try (exfalso; omega))
          | refine c_cond_t (by exact rfl) ?_
          | (refine g_case (by exact rfl) (by exact rfl) (fun h => ?_) (fun h => ?_) <;> try (exfalso; omega))
          | refine g_skip (by exact rfl) (by exact rfl) (by exact rfl) (by exact rfl) ?_
        refine ret1 [] rfl rfl rfl ⟨by rw [hi, if_neg (fun h => okIn_bad hx hlow h.1)], rfl⟩
      · by_cases hxn : n ≤ x
        · repeat' first
            | refine k_then ?_
            | refine c_seq ?_
            | refine c_region ?_
            | refine s_nil ?_
            | refine s_move (by exact rfl) (by exact rfl) ?_
            | refine s_assign (by exact rfl) (by exact rfl) ?_
            | refine s_lss (by exact rfl) (by exact rfl) (by exact rfl) ?_
            | refine s_leq (by exact rfl) (by exact rfl) (by exact rfl) ?_
            | refine s_idx (by exact rfl) (by exact rfl) (by exact rfl) (by assumption) (by first | assumption | omega) ?_
            | refine s_pick_f (by exact rfl) (by exact rfl) (by exact rfl) ?_
            | refine s_ld_ro (by exact rfl) (by exact rfl) (by assumption) (by assumption) ?_
            | refine c_block ?_
            | refine c_skip ?_
            | refine c_ret ?_
            | refine k_then_ret ?_
            | refine k_blk_ret ?_
            | (refine c_cond_p (by exact rfl) (fun h => ?_) (fun h => ?_) <;> try (exfalso; omega))
            | (refine g_case (by exact rfl) (by exact rfl) (fun h => ?_) (fun h => ?_) <;> try (exfalso; omega))
            | refine w_move (by exact rfl) (by exact rfl) (by exact rfl) (by exact rfl) ?_
            | refine w_fa (by exact rfl) (by exact rfl) (by exact rfl) (by exact rfl) ?_
            | refine w_ld_box (by exact rfl) (by exact rfl) (by exact rfl) (by exact rfl) (by exact .tail _ (.tail _ (.head _))) (by exact rfl) ?_
            | refine w_geq (by exact rfl) (by exact rfl) (by exact rfl) (by exact rfl) (by exact rfl) ?_
          refine ret1 [] rfl rfl rfl ⟨by rw [hi, if_neg (fun h => okIn_out hx (.inr hxn) h.1)], rfl⟩
        · have hq2 := okIn_last hq hx (by omega) (by omega)
          have h0 := (hq2.1 x (by rw [List.take_add_one, hx]; simp)).1
          have hput := metM_put (okIn_notin hx hq2)
          rw [show l.take k ++ [x] = l.take (k + 1) by rw [List.take_add_one, hx]; rfl] at hput
          repeat' first
            | refine k_then ?_
            | refine c_seq ?_
            | refine c_region ?_
            | refine s_nil ?_
            | refine s_move (by exact rfl) (by exact rfl) ?_
            | refine s_assign (by exact rfl) (by exact rfl) ?_
            | refine s_ld_box (by exact rfl) (by exact rfl) (by exact .head _) (by exact rfl) ?_
            | refine s_lss (by exact rfl) (by exact rfl) (by exact rfl) ?_
            | refine s_leq (by exact rfl) (by exact rfl) (by exact rfl) ?_
            | refine s_idx (by exact rfl) (by exact rfl) (by exact rfl) (by assumption) (by first | assumption | omega) ?_
            | refine s_pick_f (by exact rfl) (by exact rfl) (by exact rfl) ?_
            | refine s_ld_ro (by exact rfl) (by exact rfl) (by assumption) (by assumption) ?_
            | refine c_block ?_
            | refine c_skip ?_
            | (refine c_cond_p (by exact rfl) (fun h => ?_) (fun h => ?_) <;> try (exfalso; omega))
            | (refine g_case (by exact rfl) (by exact rfl) (fun h => ?_) (fun h => ?_) <;> try (exfalso; omega))
            | refine w_move (by exact rfl) (by exact rfl) (by exact rfl) (by exact rfl) ?_
            | refine w_fa (by exact rfl) (by exact rfl) (by exact rfl) (by exact rfl) ?_
            | refine w_ld_box (by exact rfl) (by exact rfl) (by exact rfl) (by exact rfl) (by exact .tail _ (.tail _ (.head _))) (by exact rfl) ?_
            | refine w_geq (by exact rfl) (by exact rfl) (by exact rfl) (by exact rfl) (by exact rfl) ?_
          refine o_mapup x true (by exact rfl) (by exact rfl) (by exact rfl) (i := 1) (by exact rfl) rfl rfl ⟨by omega, by omega⟩ ?_
          rw [hput]
          repeat' first
            | refine k_then ?_
            | refine c_region ?_
            | refine s_nil ?_
            | refine s_move (by exact rfl) (by exact rfl) ?_
            | refine s_add (by exact rfl) (by exact rfl) (by exact rfl) (by omega) ?_
            | refine k_blk ?_
          refine c_round (k + 1) [0, 0, 0] (by exact rfl) ?_ ⟨by omega, hq2⟩ (by omega)
          rw [show lastI l (k + 1) = x by simp [lastI, List.getD_eq_getElem?_getD, hx]]
          exact ⟨rfl, rfl, rfl, rfl, rfl, rfl, trivial⟩
    · rw [List.take_of_length_le (by omega)] at hq ⊢
      repeat' first
        | refine k_then ?_
        | refine c_seq ?_
        | refine c_region ?_
        | refine s_nil ?_
        | refine s_fa (by exact rfl) (by exact rfl) ?_
        | refine s_ld_box (by exact rfl) (by exact rfl) (by exact .tail _ (.tail _ (.head _))) (by exact rfl) ?_
        | refine s_lss (by exact rfl) (by exact rfl) (by exact rfl) ?_
        | refine c_exit ?_
        | refine k_then_exit ?_
        | refine k_blk_eq ?_
        | (refine c_cond_p (by exact rfl) (fun h => ?_) (fun h => ?_) <;> try (exfalso; omega))
      refine o_mkf [] [.pointer (some ⟨b, 0, none⟩)] (by exact rfl) (by exact rfl) (by exact rfl) ?_
      refine s_call (by exact rfl) (by exact rfl) (fun w h => containsF_ok v es 50 [.pointer (some ⟨b, 0, none⟩)] (fun e => decide (e.1 ∈ l) && decide (e.2.1 ∈ l)) w hs (ro_old h hr) ?_) ?_
      · intro k e he w' S' hm
        obtain ⟨q1, q2, q3, q4, -⟩ := hR.ok e (List.mem_of_getElem? he)
        exact check1_ok e b (.map (some bm)) l w' ⟨by omega, by omega⟩ ⟨by omega, by omega⟩ (rb_mod (rb_own h (.head _)) hm) (rm_mod (rm_own h (.tail _ (.head _))) hm)
      by_cases hp : indP es l
      · rw [show (es.any fun e => decide (e.1 ∈ l) && decide (e.2.1 ∈ l)) = false from by
          rw [List.any_eq_false]
          intro e he
          simpa using fun h1 h2 => hp e he ⟨h1, h2⟩]
        repeat' first
          | refine k_then ?_
          | refine c_seq ?_
          | refine c_region ?_
          | refine s_nil ?_
          | refine s_assign (by exact rfl) (by exact rfl) ?_
          | refine c_skip ?_
          | refine c_ret ?_
          | refine c_cond_f (by exact rfl) ?_
        refine ret1 [] rfl rfl rfl ⟨by rw [hi, if_pos ⟨hq, hp⟩], rfl⟩
      · rw [show (es.any fun e => decide (e.1 ∈ l) && decide (e.2.1 ∈ l)) = true from by
          rw [List.any_eq_true]
          refine Decidable.byContradiction fun hn => hp fun e he h => hn ⟨e, he, by simpa using h⟩]
        repeat' first
          | refine k_then ?_
          | refine c_seq ?_
          | refine c_region ?_
          | refine s_nil ?_
          | refine s_assign (by exact rfl) (by exact rfl) ?_
          | refine c_ret ?_
          | refine k_then_ret ?_
          | refine c_cond_t (by exact rfl) ?_
        refine ret1 [] rfl rfl rfl ⟨by rw [hi, if_neg (fun h => hp h.2)], rfl⟩
  · repeat' first
      | refine k_then ?_
      | refine c_seq ?_
      | refine c_region ?_
      | refine s_nil ?_
      | refine s_assign (by exact rfl) (by exact rfl) ?_
      | refine s_neq (by exact rfl) (by exact rfl) (by exact rfl) ?_
      | refine c_ret ?_
      | refine k_then_ret ?_
      | (refine c_cond_p (by exact rfl) (fun h => ?_) (fun h => ?_) <;> try (exfalso; omega))
    refine ret1 [] rfl rfl rfl ⟨by rw [indK, if_neg hR0], rfl⟩
end Go.Proofs.Ytkekpgkacjpjnaa
end
section
namespace Fil
def es5 : List E := [(0, 1, 0), (0, 4, 0), (1, 2, 0), (2, 3, 0), (3, 4, 0)]
theorem nearS_es5 : (List.range 5).map (nearS (tn es5)) = [[1, 4], [0, 2], [1, 3], [2, 4], [0, 3]] := by
  have h : ∀ u, u < 5 → nearS (tn es5) u = nb (tn es5) u := fun u hu => by
    refine sortN_self ?_
    match u, hu with
    | 0, _ => decide
    | 1, _ => decide
    | 2, _ => decide
    | 3, _ => decide
    | 4, _ => decide
  rw [List.map_congr_left (g := nb (tn es5)) fun u hu => h u (by simpa using hu)]
  decide
theorem widthL_congr {T T' : List (Nat × List Nat)} (h : T.map (fun p => (p.1, p.2.length)) = T'.map fun p => (p.1, p.2.length)) : widthL T = widthL T' := by
  have e : ∀ (T : List (Nat × List Nat)), widthL T = (T.map fun p => (p.1, p.2.length)).foldl (fun w p => max w p.2) 0 := fun T => by
    rw [widthL, List.foldl_map]
  rw [e, e, h]
/-- what is not next to one another, in the program's numbers -/
theorem okIn_nat {n : Int} {l : List Nat} (hn : 0 ≤ n) (h : Asc l) (hl : ∀ u ∈ l, u < n.toNat) : okIn n (l.map fun z : Nat => (z : Int)) := by
  refine ⟨fun x hx => ?_, ?_⟩
  · obtain ⟨u, hu, rfl⟩ := List.mem_map.1 hx
    have := hl u hu
    omega
  · rw [List.pairwise_map]
    exact h.imp fun h => by omega
end Fil
namespace Go.Proofs.Ytkekpgkacjpjnaa
open Go Go.RowKit Go.Sl Fil
set_option maxRecDepth 100000
set_option maxHeartbeats 8000000
set_option linter.unusedVariables false
set_option linter.unusedSimpArgs false
attribute [local irreducible] Code.wp wpList bodyPost wpQuiet Exit.then Exit.inBlock Post wpAnyH wpOp
theorem indP_nat {n : Int} {es : List E} {l : List Nat} (hR : RightG n es) (h : ∀ u ∈ l, ∀ v ∈ l, u ∉ nearS (tn es) v) : indP es (l.map fun z : Nat => (z : Int)) := by
  rintro e he ⟨h1, h2⟩
  obtain ⟨u, hu, e1⟩ := List.mem_map.1 h1
  obtain ⟨v, hv, e2⟩ := List.mem_map.1 h2
  refine h v hv u hu ?_
  rw [mem_nearS, mem_nb hR.tn_ne, mem_tn]
  exact .inl ⟨e, he, by omega, by omega⟩
theorem indK_ok {n : Int} {es : List E} {l : List Nat} (hR : RightG n es) (ha : Asc l) (hM : MaxIn (nearS (tn es)) n.toNat (fun _ => true) l) : indK n es (l.map fun z : Nat => (z : Int)) = 0 := by
  rw [indK, if_pos (right_iff.2 hR), if_pos ⟨okIn_nat hR.lo ha fun u hu => (hM.mem u hu).1, indP_nat hR hM.ind.no⟩]
theorem max5 {l : List Nat} (hM : MaxIn (nearS (tn es5)) 5 (fun _ => true) l) : l.length = 2 := by
  have hR : RightG 5 es5 := right_iff.1 (by decide)
  have h1 : l.length ≤ val (nb (tn es5)) [0, 1, 2, 3, 4] (fun _ => false) := by
    refine val_upper ⟨hM.ind.nd, fun u hu v hv => ?_, fun _ _ _ _ => rfl⟩ fun u hu => ?_
    · rw [← mem_nearS]; exact hM.ind.no u hu v hv
    · have := (hM.mem u hu).1
      have : u = 0 ∨ u = 1 ∨ u = 2 ∨ u = 3 ∨ u = 4 := by omega
      simpa using this
  have h2 : val (nb (tn es5)) [0, 1, 2, 3, 4] (fun _ => false) = 2 := by decide
  have h3 := hM.top [0, 2] ⟨by decide, fun u hu v hv => by
    rw [mem_nearS]
    have hu : u = 0 ∨ u = 2 := by simpa using hu
    have hv : v = 0 ∨ v = 2 := by simpa using hv
    rcases hu with rfl | rfl <;> rcases hv with rfl | rfl <;> decide, fun _ _ _ _ => rfl⟩ (by simp)
  have h4 : ([0, 2] : List Nat).length = 2 := rfl
  omega
theorem width5 {T : List (Nat × List Nat)} (hT : T = runS 5 5 (nearF 5 (tn es5))) : widthL T = 2 := by
  have hR : RightG 5 es5 := right_iff.1 (by decide)
  have hnd : ∀ u, (nearS (tn es5) u).Nodup := fun u => (List.mergeSort_perm _ _).nodup_iff.2 (nb_nodup hR u)
  have h := refS_eq 5 _ _ _ (Rel.first hR hnd)
  rw [show ((5 : Int).toNat) = 5 from rfl, nearS_es5] at h
  rw [hT, widthL_congr h.symm]
  decide
theorem Ring5_ok (w : World) : Calls Try.prog 48 #[.int .i64 5] w (Post w No fun r L' => ∃ vo, r = .agg #[.int .i64 5, vo] ∧ L' = [rowHP vo 47 3 5 (esV es5)]) := by
  refine enter0 (vs := [_]) Try.func48 rfl Try.ntmps48 rfl ?_
  repeat' first
    | refine k_then ?_
    | refine c_seq ?_
    | refine c_region ?_
    | refine s_nil ?_
    | refine s_move (by exact rfl) (by exact rfl) ?_
    | refine o_alloc (by exact rfl) (fun b => ?_)
  revert b; intro b2
  refine o_build (cs := [.int .i64 5, .slice none 0 0]) [(0, .int .i64 5, [.int .i64 5])] (by exact rfl) (by exact rfl) (by simp [Value.cells]) (by exact rfl) ?_
  repeat' first
    | refine o_alloc (by exact rfl) (fun b => ?_)
  revert b; intro b3
  refine o_stk_box (i := 0) (us := [.int .i64 5, .slice none 0 0]) (by exact rfl) (by exact rfl) (by exact rfl) (by exact rfl) (by exact rfl) (by simp [Value.oneCell']) (by simp [Value.cells]) ?_
  repeat' first
    | refine k_then ?_
    | refine c_seq ?_
    | refine c_region ?_
    | refine s_nil ?_
    | refine s_assign (by exact rfl) (by exact rfl) ?_
    | refine c_block ?_
  refine c_nil 47 3 ?_
  refine c_loop (fun x : Nat × Value => x.1 ≤ 4) (fun x => [(0, .int .i64 5), (2, .pointer (some ⟨b2, 0, none⟩)), (3, .pointer (some ⟨b3, 0, none⟩)), (4, .int .i64 (x.1 : Int))]) (fun x => [rowHP x.2 47 3 x.1 (esV ((List.range x.1).map fun i : Nat => ((i : Int), (i : Int) + 1, (0 : Int)))), boxHP b3 24 [.int .i64 5, x.2], boxHP b2 24 [.int .i64 0, .slice none 0 0]]) (fun x => 4 - x.1) (0, .slice none 0 0) [0, 0, 0] (Nat.zero_le _) (by exact rfl) ⟨rfl, rfl, rfl, rfl, trivial⟩ ?_
  rintro ⟨i, vg⟩ hi
  dsimp only at hi ⊢
  have hrl : (esV ((List.range i).map fun i : Nat => ((i : Int), (i : Int) + 1, (0 : Int)))).length = i * 3 := by rw [esV_length]; simp
  by_cases hi4 : i < 4
  · repeat' first
      | refine k_then ?_
      | refine c_seq ?_
      | refine c_region ?_
      | refine s_nil ?_
      | refine s_move (by exact rfl) (by exact rfl) ?_
      | refine s_fa (by exact rfl) (by exact rfl) ?_
      | refine s_ld_box (by exact rfl) (by exact rfl) (by exact .tail _ (.head _)) (by exact rfl) ?_
      | refine s_lss (by exact rfl) (by exact rfl) (by exact rfl) ?_
      | refine s_add (by exact rfl) (by exact rfl) (by exact rfl) (by omega) ?_
      | refine c_block ?_
      | refine c_skip ?_
      | (refine c_cond_p (by exact rfl) (fun h => ?_) (fun h => ?_) <;> try (exfalso; omega))
    refine o_build (cs := eV ((i : Int), (i : Int) + 1, 0)) [(0, .int .i64 (i : Int), [.int .i64 (i : Int)]), (1, .int .i64 ((i : Int) + 1), [.int .i64 ((i : Int) + 1)])] (by exact rfl) (by exact rfl) (by simp [Value.cells]) (by exact rfl) ?_
    refine o_mk [.agg (eV ((i : Int), (i : Int) + 1, 0)).toArray] (by exact rfl) (by exact rfl) rfl (by simp [Value.cells, eV]) (by simp) (by simp) fun va hva => ?_
    skip
    refine o_append_row (bytes := 24) (i := 1) (by exact rfl) (by exact rfl) (by exact rfl) (by exact rfl) (by exact .head _) (by simp [Value.cells, eV]) (by simp [Value.cells, eV, Value.oneCell']) (by omega) fun v2 hv2 => ?_
    repeat' first
      | refine s_fa (by exact rfl) (by exact rfl) ?_
    refine o_st_box (i := 2) (by exact rfl) (by exact rfl) (by exact rfl) hv2.one (by simp) ?_
    repeat' first
      | refine k_then ?_
      | refine c_region ?_
      | refine s_nil ?_
      | refine s_move (by exact rfl) (by exact rfl) ?_
      | refine s_assign (by exact rfl) (by exact rfl) ?_
      | refine s_add (by exact rfl) (by exact rfl) (by exact rfl) (by omega) ?_
      | refine k_blk ?_
    refine c_round (i + 1, v2) [1, 1, 1] ?_ ⟨rfl, rfl, rfl, rfl, trivial⟩ (by dsimp only; omega) (by dsimp only; omega)
    dsimp only
    rw [List.range_succ, List.map_append, esV_append]
    rfl
  · obtain rfl : i = 4 := by omega
    repeat' first
      | refine k_then ?_
      | refine c_seq ?_
      | refine c_region ?_
      | refine s_nil ?_
      | refine s_move (by exact rfl) (by exact rfl) ?_
      | refine s_fa (by exact rfl) (by exact rfl) ?_
      | refine s_ld_box (by exact rfl) (by exact rfl) (by exact .tail _ (.head _)) (by exact rfl) ?_
      | refine s_lss (by exact rfl) (by exact rfl) (by exact rfl) ?_
      | refine s_add (by exact rfl) (by exact rfl) (by exact rfl) (by omega) ?_
      | refine s_sub (by exact rfl) (by exact rfl) (by exact rfl) (by omega) ?_
      | refine c_exit ?_
      | refine k_then_exit ?_
      | refine k_blk_eq ?_
      | (refine c_cond_p (by exact rfl) (fun h => ?_) (fun h => ?_) <;> try (exfalso; omega))
    refine o_build (cs := eV (0, 4, 0)) [(0, .int .i64 0, [.int .i64 0]), (1, .int .i64 4, [.int .i64 4])] (by exact rfl) (by exact rfl) (by simp [Value.cells]) (by exact rfl) ?_
    refine o_mk [.agg (eV (0, 4, 0)).toArray] (by exact rfl) (by exact rfl) rfl (by simp [Value.cells, eV]) (by simp) (by simp) fun va hva => ?_
    skip
    refine o_append_row (bytes := 24) (i := 1) (by exact rfl) (by exact rfl) (by exact rfl) (by exact rfl) (by exact .head _) (by simp [Value.cells, eV]) (by simp [Value.cells, eV, Value.oneCell']) (by omega) fun v2 hv2 => ?_
    repeat' first
      | refine s_fa (by exact rfl) (by exact rfl) ?_
    refine o_st_box (i := 2) (by exact rfl) (by exact rfl) (by exact rfl) hv2.one (by simp) ?_
    repeat' first
      | refine k_then ?_
      | refine c_seq ?_
      | refine c_region ?_
      | refine s_nil ?_
      | refine s_move (by exact rfl) (by exact rfl) ?_
      | refine s_fa (by exact rfl) (by exact rfl) ?_
      | refine s_ld_box (by exact rfl) (by exact rfl) (by exact .tail _ (.tail _ (.head _))) (by exact rfl) ?_
    refine o_call (by exact rfl) (by exact rfl) (fun w h => refMake_ok 5 v2 [(0, 1, 0), (1, 2, 0), (2, 3, 0), (3, 4, 0), (0, 4, 0)] w hv2 (ro_own h (e := 47) (sz := 3) (m := 5) (.tail _ (.head _))) (by simp)) ?_
    rintro _ _ ⟨vo, rfl, rfl⟩
    rw [show makeR 5 [(0, 1, 0), (1, 2, 0), (2, 3, 0), (3, 4, 0), (0, 4, 0)] = (0, es5) by decide]
    refine know_row (v := vo) (.head _) fun hvo _ => ?_
    rw [if_pos rfl]
    repeat' first
      | refine s_move (by exact rfl) (by exact rfl) ?_
      | refine s_extract (by exact rfl) (by exact rfl) (by exact rfl) ?_
      | refine o_alloc (by exact rfl) (fun b => ?_)
    refine o_stk_box (i := 0) (us := [.int .i64 5, vo]) (by exact rfl) (by exact rfl) (by exact rfl) (by exact rfl) (by exact rfl) (by
      intro u hu
      simp only [List.mem_cons, List.not_mem_nil, or_false] at hu
      rcases hu with rfl | rfl
      · rfl
      · exact hvo.one) (by simp [Value.cells]) ?_
    repeat' first
      | refine k_then ?_
      | refine c_seq ?_
      | refine c_region ?_
      | refine s_nil ?_
      | refine s_assign (by exact rfl) (by exact rfl) ?_
      | refine s_ldk_box (by exact rfl) (by exact rfl) (by exact .head _) (by exact rfl) (by exact rfl) ?_
    refine o_stk_box (i := 5) (us := [.int .i64 5, vo]) (by exact rfl) (by exact rfl) (by exact rfl) (by exact rfl) (by exact rfl) (by
      intro u hu
      simp only [List.mem_cons, List.not_mem_nil, or_false] at hu
      rcases hu with rfl | rfl
      · rfl
      · exact hvo.one) (by simp) ?_
    repeat' first
      | refine k_then ?_
      | refine s_nil ?_
      | refine c_ret ?_
    refine retL [.cell 2 24] [.agg #[.int .i64 5, vo]] [1] rfl ⟨res_cellk (cs := [.int .i64 5, vo]) (k := 2) (off := 0) (us := [.int .i64 5, vo]) rfl (.tail _ (.tail _ (.tail _ (.tail _ (.tail _ (.head _)))))) rfl rfl, trivial⟩ (by exact rfl) ⟨vo, rfl, rfl⟩
theorem alive19_ok (w : World) : Calls Try.prog 25 #[] w (Post w No (Just (.bool true))) := by
  have hR : RightG 5 es5 := right_iff.1 (by decide)
  refine enter0 (vs := []) Try.func25 rfl Try.ntmps25 rfl ?_
  repeat' first
    | refine k_then ?_
    | refine c_seq ?_
    | refine c_region ?_
    | refine s_nil ?_
    | refine s_assign (by exact rfl) (by exact rfl) ?_
  refine o_call (vs := [.int .i64 5]) (by exact rfl) (by exact rfl) (fun w h => Ring5_ok w) ?_
  rintro _ _ ⟨vg, rfl, rfl⟩
  refine know_row (v := vg) (.head _) fun hvg _ => ?_
  repeat' first
    | refine o_alloc (by exact rfl) (fun b => ?_)
  refine o_stk_box (i := 0) (us := [.int .i64 5, vg]) (by exact rfl) (by exact rfl) (by exact rfl) (by exact rfl) (by exact rfl) (by
    intro u hu
    simp only [List.mem_cons, List.not_mem_nil, or_false] at hu
    rcases hu with rfl | rfl
    · rfl
    · exact hvg.one) (by simp [Value.cells]) ?_
  repeat' first
    | refine k_then ?_
    | refine c_seq ?_
    | refine c_region ?_
    | refine s_nil ?_
    | refine s_ldk_box (by exact rfl) (by exact rfl) (by exact .head _) (by exact rfl) (by exact rfl) ?_
  refine o_call (vs := [.agg #[.int .i64 5, vg]]) (by exact rfl) (by exact rfl) (fun w h => Max_ok 5 vg es5 w hvg (ro_own h (by exact .tail _ (.head _))) hR (by omega)) ?_
  rintro _ _ ⟨vm, l, rfl, rfl, hasc, hM⟩
  have hl2 := max5 hM
  have hik := indK_ok hR hasc hM
  refine know_row (v := vm) (.head _) fun hvm _ => ?_
  repeat' first
    | refine k_then ?_
    | refine c_seq ?_
    | refine c_region ?_
    | refine s_nil ?_
    | refine s_move (by exact rfl) (by exact rfl) ?_
    | refine s_assign (by exact rfl) (by exact rfl) ?_
    | refine s_extract (by exact rfl) (by exact rfl) (by exact rfl) ?_
    | refine s_ldk_box (by exact rfl) (by exact rfl) (by exact .tail _ (.head _)) (by exact rfl) (by exact rfl) ?_
  refine o_call (vs := [.agg #[.int .i64 5, vg]]) (by exact rfl) (by exact rfl) (fun w h => Width_ok 5 vg es5 w hvg (ro_own h (by exact .tail _ (.tail _ (.head _)))) hR) ?_
  rintro _ _ ⟨vw, T, hT, rfl, rfl⟩
  rw [width5 hT]
  rw [hl2] at hvm ⊢
  repeat' first
    | refine k_then ?_
    | refine c_seq ?_
    | refine c_region ?_
    | refine s_nil ?_
    | refine s_move (by exact rfl) (by exact rfl) ?_
    | refine s_assign (by exact rfl) (by exact rfl) ?_
    | refine s_eql (by exact rfl) (by exact rfl) (by exact rfl) ?_
    | refine s_extract (by exact rfl) (by exact rfl) (by exact rfl) ?_
    | refine s_pick_t (by exact rfl) (by exact rfl) (by exact rfl) ?_
    | (refine g_case (by exact rfl) (by exact rfl) (fun h => ?_) (fun h => ?_) <;> try (exfalso; omega))
    | refine w_move (by exact rfl) (by exact rfl) (by exact rfl) (by exact rfl) ?_
    | refine w_eql (by exact rfl) (by exact rfl) (by exact rfl) (by exact rfl) (by exact rfl) ?_
    | refine w_len (by exact rfl) (by exact rfl) (by exact rfl) (by exact rfl) (by assumption) ?_
    | refine w_ldk_box (by exact rfl) (by exact rfl) (by exact rfl) (by exact rfl) (by exact .tail _ (.tail _ (.head _))) (by exact rfl) (by exact rfl) ?_
    | refine g_on (by exact rfl) (by exact rfl) ?_
  refine s_call (vs := [.agg #[.int .i64 5, vg], vm]) (by exact rfl) (by exact rfl) (fun w h => Check_ok 5 vg vm es5 (l.map fun z : Nat => (z : Int)) w hvg (ro_own h (.tail _ (.tail _ (.tail _ (.head _))))) (by decide) (by rw [List.length_map, hl2]; exact hvm) (by rw [← nV_iV]; exact ro_own h (.tail _ (.head _)))) ?_
  rw [hik]
  repeat' first
    | refine k_then ?_
    | refine s_nil ?_
    | refine s_move (by exact rfl) (by exact rfl) ?_
    | refine s_assign (by exact rfl) (by exact rfl) ?_
    | refine s_pick_t (by exact rfl) (by exact rfl) (by exact rfl) ?_
    | refine c_ret ?_
    | (refine g_case (by exact rfl) (by exact rfl) (fun h => ?_) (fun h => ?_) <;> try (exfalso; omega))
    | refine w_move (by exact rfl) (by exact rfl) (by exact rfl) (by exact rfl) ?_
    | refine w_eql (by exact rfl) (by exact rfl) (by exact rfl) (by exact rfl) (by exact rfl) ?_
  refine ret1 [] rfl rfl (by exact rfl) ⟨rfl, rfl⟩
end Go.Proofs.Ytkekpgkacjpjnaa
end
section
set_option linter.unusedVariables false
namespace Fil
theorem Lev.nb_of {N : Nat} {l : List (Nat × Nat)} {o lab : Nat → Nat} (h : Lev N (nearS l) o lab) : Lev N (nb l) o lab :=
  h.congr fun v _ u => mem_nearS
end Fil
namespace Go.Proofs.Ytkekpgkacjpjnaa
open Go.RowKit Go.Sl Fil
set_option maxRecDepth 100000
set_option maxHeartbeats 8000000
set_option linter.unusedVariables false
set_option linter.unusedSimpArgs false
attribute [local irreducible] Code.wp wpList bodyPost wpQuiet Exit.then Exit.inBlock Post wpAnyH wpOp
end Go.Proofs.Ytkekpgkacjpjnaa
end
section
namespace Go.Proofs.Ytkekpgkacjpjnaa
open Go.RowKit Go.Sl Fil
set_option maxRecDepth 100000
set_option maxHeartbeats 8000000
set_option linter.unusedVariables false
set_option linter.unusedSimpArgs false
attribute [local irreducible] Code.wp wpList bodyPost wpQuiet Exit.then Exit.inBlock Post wpAnyH wpOp
def es0 : List E := [(0, 1, 0), (1, 2, 0), (2, 3, 0)]
end Go.Proofs.Ytkekpgkacjpjnaa
end
section
namespace Go.Proofs.Ytkekpgkacjpjnaa
open Go.RowKit Go.Sl Fil
set_option maxRecDepth 100000
set_option maxHeartbeats 8000000
set_option linter.unusedVariables false
set_option linter.unusedSimpArgs false
attribute [local irreducible] Code.wp wpList bodyPost wpQuiet Exit.then Exit.inBlock Post wpAnyH wpOp
theorem Light_b (n : Int) (v : Value) (m : Nat) (k : Int) (b : Bool) (w : World) (hb : (decide (n ≤ k) && decide ((m : Int) ≤ 4 * k)) = b) (hs : Shp v m) (hk : 0 ≤ k ∧ k < 1000000) :
    Calls Try.prog 13 #[.agg #[.int .i64 n, v], .int .i64 k] w (Post w No (Just (.bool b))) := hb ▸ Light_ok n v m k w hs hk
end Go.Proofs.Ytkekpgkacjpjnaa
end
section
namespace Go.Proofs.Ytkekpgkacjpjnaa
open Go.RowKit Go.Sl Fil
set_option maxRecDepth 100000
set_option maxHeartbeats 8000000
set_option linter.unusedVariables false
set_option linter.unusedSimpArgs false
attribute [local irreducible] Code.wp wpList bodyPost wpQuiet Exit.then Exit.inBlock Post wpAnyH wpOp
theorem bV_set (l : List Bool) (k : Nat) (b : Bool) : (bV l).set (k * 1) (.bool b) = bV (l.set k b) := by simp [bV, List.map_set]
end Go.Proofs.Ytkekpgkacjpjnaa
end
section
namespace Go.Proofs.Ytkekpgkacjpjnaa
open Go.RowKit Go.Sl Fil
set_option maxRecDepth 100000
set_option maxHeartbeats 8000000
set_option linter.unusedVariables false
set_option linter.unusedSimpArgs false
attribute [local irreducible] Code.wp wpList bodyPost wpQuiet Exit.then Exit.inBlock Post wpAnyH wpOp
end Go.Proofs.Ytkekpgkacjpjnaa
end
section
namespace Fil
end Fil
namespace Go.Proofs.Ytkekpgkacjpjnaa
open Go.RowKit Go.Sl Fil
set_option maxRecDepth 100000
set_option maxHeartbeats 8000000
set_option linter.unusedVariables false
set_option linter.unusedSimpArgs false
attribute [local irreducible] Code.wp wpList bodyPost wpQuiet Exit.then Exit.inBlock Post wpAnyH wpOp
end Go.Proofs.Ytkekpgkacjpjnaa
end
section
namespace Fil
end Fil
namespace Go.Proofs.Ytkekpgkacjpjnaa
open Go Go.RowKit Go.Sl Fil
set_option maxRecDepth 100000
set_option maxHeartbeats 8000000
set_option linter.unusedVariables false
set_option linter.unusedSimpArgs false
attribute [local irreducible] Code.wp wpList bodyPost wpQuiet Exit.then Exit.inBlock Post wpAnyH wpOp
end Go.Proofs.Ytkekpgkacjpjnaa
end
section
namespace Fil
theorem runG_ind {nb : Nat → List Nat} (hsym : ∀ u v, u ∈ nb v → v ∈ nb u) (hirr : ∀ v, v ∉ nb v) {N : Nat} : ∀ (k : Nat) (A : Nat → Option (List Nat)), WF N A → leftN N A ≤ k → (∀ a m, A a = some m → ∀ u, u ∈ m ↔ u ∈ nb a ∧ A u ≠ none) →
    (runG N k A).Nodup ∧ (∀ u ∈ runG N k A, A u ≠ none) ∧ (∀ u ∈ runG N k A, ∀ v ∈ runG N k A, u ∉ nb v) ∧ ∀ u, A u ≠ none → u ∈ runG N k A ∨ ∃ w ∈ runG N k A, w ∈ nb u
  | 0, A, h, hk, hA => by
    refine ⟨by simp [runG], by simp [runG], by simp [runG], fun u hu => absurd ?_ hu⟩
    by_cases hv : u < N
    · have := List.countP_eq_zero.1 (show leftN N A = 0 by omega) u (by simpa using hv)
      simpa using this
    · exact h.out u (by omega)
  | k + 1, A, h, hk, hA => by
    cases hf : fewI A N with
    | none =>
      refine ⟨by simp [runG, hf], by simp [runG, hf], by simp [runG, hf], fun u hu => absurd ?_ hu⟩
      by_cases hv : u < N
      · exact fewI_none hf u hv
      · exact h.out u (by omega)
    | some v =>
      obtain ⟨hvN, l, hAv⟩ := fewI_some hf
      obtain ⟨g1, g2, g3, g4⟩ := green h hAv
      obtain ⟨_, e2, e3⟩ := goneF_ok (sortN l) _ (h.take hAv) g3 (fun u hu => (g4 u hu).2)
      have hnone : ∀ u, goneF (takeF A v l) (sortN l) u = none ↔ u ∈ l ∨ u = v ∨ A u = none := fun u => by
        rw [e2, (sortN_perm l).mem_iff, takeF_none (N := N)]
      have hl : ∀ u, u ∈ l ↔ u ∈ nb v ∧ A u ≠ none := hA v l hAv
      obtain ⟨i1, i2, i3, i4⟩ := runG_ind hsym hirr k _ g1 (by omega) (fun a m hm u => by
        obtain ⟨m0, f1, rfl⟩ := e3 a m hm
        obtain ⟨f2, m1, f3, rfl⟩ := (takeF_some h hAv).1 f1
        have hn := hnone u
        simp only [List.mem_filter, (sortN_perm l).mem_iff, decide_eq_true_eq, hA a m1 f3 u]
        constructor
        · rintro ⟨⟨⟨x1, x2⟩, x3⟩, x4⟩
          exact ⟨x1, fun x5 => (hn.1 x5).elim x4 fun x6 => x6.elim x3 x2⟩
        · rintro ⟨x1, x2⟩
          exact ⟨⟨⟨x1, fun x3 => x2 (hn.2 (.inr (.inr x3)))⟩, fun x3 => x2 (hn.2 (.inr (.inl x3)))⟩, fun x3 => x2 (hn.2 (.inl x3))⟩)
      simp only [runG, hf, hAv, Option.getD_some]
      generalize runG N k (goneF (takeF A v l) (sortN l)) = R at *
      have hR : ∀ u ∈ R, u ∉ l ∧ u ≠ v ∧ A u ≠ none := fun u hu => by
        have := i2 u hu
        rw [Ne, hnone] at this
        exact ⟨fun x => this (.inl x), fun x => this (.inr (.inl x)), fun x => this (.inr (.inr x))⟩
      have hRv : ∀ u ∈ R, u ∉ nb v := fun u hu hn => (hR u hu).1 ((hl u).2 ⟨hn, (hR u hu).2.2⟩)
      refine ⟨List.nodup_cons.2 ⟨fun hv => (hR v hv).2.1 rfl, i1⟩, ?_, ?_, ?_⟩
      · intro u hu
        rcases List.mem_cons.1 hu with rfl | hu
        · rw [hAv]; simp
        · exact (hR u hu).2.2
      · intro u hu w hw
        rcases List.mem_cons.1 hu with rfl | hu
        · rcases List.mem_cons.1 hw with rfl | hw
          · exact hirr _
          · exact fun x => hRv w hw (hsym _ _ x)
        · rcases List.mem_cons.1 hw with e | hw
          · rw [e]; exact hRv u hu
          · exact i3 u hu w hw
      · intro u hu
        by_cases hg : goneF (takeF A v l) (sortN l) u = none
        · rcases (hnone u).1 hg with x | rfl | x
          · exact .inr ⟨v, .head _, hsym _ _ ((hl u).1 x).1⟩
          · exact .inl (.head _)
          · exact absurd x hu
        · rcases i4 u hg with x | ⟨w, x, y⟩
          · exact .inl (.tail _ x)
          · exact .inr ⟨w, .tail _ x, y⟩
theorem MaxIn.dom {nb : Nat → List Nat} (hsym : ∀ u v, u ∈ nb v → v ∈ nb u) (hirr : ∀ v, v ∉ nb v) {N : Nat} {l : List Nat} (h : MaxIn nb N (fun _ => true) l) {v : Nat} (hv : v < N) : v ∈ l ∨ ∃ u ∈ nb v, u ∈ l := by
  refine Decidable.byContradiction fun hn => ?_
  have h1 : v ∉ l := fun x => hn (.inl x)
  have h2 : ∀ u ∈ l, u ∉ nb v := fun u hu x => hn (.inr ⟨u, x, hu⟩)
  have := h.top (v :: l) ⟨List.nodup_cons.2 ⟨h1, h.ind.nd⟩, fun u hu w hw => by
    rcases List.mem_cons.1 hu with rfl | hu
    · rcases List.mem_cons.1 hw with rfl | hw
      · exact hirr _
      · exact fun x => h2 w hw (hsym _ _ x)
    · rcases List.mem_cons.1 hw with e | hw
      · rw [e]; exact h2 u hu
      · exact h.ind.no u hu w hw, fun _ _ _ _ => rfl⟩ (fun u hu => by
    rcases List.mem_cons.1 hu with rfl | hu
    · exact ⟨hv, rfl⟩
    · exact h.mem u hu)
  rw [List.length_cons] at this; omega
def domB (l nr : List Nat) (v i : Nat) : Bool := decide (v ∈ l) || (nr.take i).any fun u => decide (u ∈ l)
theorem domB_succ {l nr : List Nat} {v i u : Nat} (h : nr[i]? = some u) : domB l nr v (i + 1) = (domB l nr v i || decide (u ∈ l)) := by
  simp [domB, List.take_add_one, h, Bool.or_assoc]
theorem domB_all {l nr : List Nat} {v i : Nat} (hi : nr.length ≤ i) (h : v ∈ l ∨ ∃ u ∈ nr, u ∈ l) : domB l nr v i = true := by
  rw [domB, List.take_of_length_le hi]
  rcases h with h | ⟨u, h1, h2⟩
  · simp [h]
  · have : (nr.any fun u => decide (u ∈ l)) = true := List.any_eq_true.2 ⟨u, h1, by simpa using h2⟩
    simp [this]
end Fil
namespace Go.Proofs.Ytkekpgkacjpjnaa
open Go Go.RowKit Go.Sl Fil
set_option maxRecDepth 100000
set_option maxHeartbeats 8000000
set_option linter.unusedVariables false
set_option linter.unusedSimpArgs false
attribute [local irreducible] Code.wp wpList bodyPost wpQuiet Exit.then Exit.inBlock Post wpAnyH wpOp
theorem IndependentFull_ok (n : Int) (v : Value) (es : List E) (vi : Value) (l : List Int) (w : World) (hs : Shp v es.length) (hr : RO w No v (esV es)) (hs2 : Shp vi l.length) (hr2 : RO w No vi (iV l)) :
    Calls Try.prog 12 #[.agg #[.int .i64 n, v], vi] w (Post w No (Just (.bool true))) := by
  refine enter0 (vs := [_, _]) Try.func12 rfl Try.ntmps12 rfl ?_
  repeat' first
    | refine k_then ?_
    | refine c_seq ?_
    | refine c_region ?_
    | refine s_nil ?_
    | refine s_assign (by exact rfl) (by exact rfl) ?_
    | refine s_ldk_box (by exact rfl) (by exact rfl) (by exact .head _) (by exact rfl) (by exact rfl) ?_
    | refine o_box (by exact rfl) (by exact rfl) (fun b => ?_)
  cases hl : (decide (n ≤ 22) && decide ((es.length : Int) ≤ 4 * 22))
  · refine s_call (by exact rfl) (by exact rfl) (fun w h => Light_b n v es.length 22 false w hl hs (by omega)) ?_
    repeat' first
      | refine k_then ?_
      | refine c_seq ?_
      | refine c_region ?_
      | refine s_nil ?_
      | refine s_move (by exact rfl) (by exact rfl) ?_
      | refine s_not (by exact rfl) (by exact rfl) ?_
      | refine s_pick_t (by exact rfl) (by exact rfl) (by exact rfl) ?_
      | refine c_cond_t (by exact rfl) ?_
      | refine g_skip (by exact rfl) (by exact rfl) (by exact rfl) (by exact rfl) ?_
    refine s_call (vs := []) (by exact rfl) (by exact rfl) (fun w h => alive19_ok w) ?_
    repeat' first
      | refine k_then ?_
      | refine s_nil ?_
      | refine s_assign (by exact rfl) (by exact rfl) ?_
      | refine c_ret ?_
      | refine k_then_ret ?_
    refine ret1 [] rfl rfl (by exact rfl) ⟨rfl, rfl⟩
  · refine s_call (by exact rfl) (by exact rfl) (fun w h => Light_b n v es.length 22 true w hl hs (by omega)) ?_
    have hn : n ≤ 22 ∧ (es.length : Int) ≤ 88 := by simpa using hl
    repeat' first
      | refine s_move (by exact rfl) (by exact rfl) ?_
      | refine s_not (by exact rfl) (by exact rfl) ?_
      | refine w_ldk_box (by exact rfl) (by exact rfl) (by exact rfl) (by exact rfl) (by exact .head _) (by exact rfl) (by exact rfl) ?_
      | refine g_on (by exact rfl) (by exact rfl) ?_
    refine s_call (by exact rfl) (by exact rfl) (fun w h => refRight_ok n v es w hs (ro_old h hr) (by omega)) ?_
    by_cases hR0 : rightK n es ≠ 0
    · repeat' first
        | refine k_then ?_
        | refine c_seq ?_
        | refine c_region ?_
        | refine s_nil ?_
        | refine s_move (by exact rfl) (by exact rfl) ?_
        | refine s_pick_t (by exact rfl) (by exact rfl) (by exact rfl) ?_
        | refine s_pick_f (by exact rfl) (by exact rfl) (by exact rfl) ?_
        | refine c_cond_t (by exact rfl) ?_
        | (refine g_case (by exact rfl) (by exact rfl) (fun h => ?_) (fun h => ?_) <;> try (exfalso; omega))
        | refine g_skip (by exact rfl) (by exact rfl) (by exact rfl) (by exact rfl) ?_
        | refine w_neq (by exact rfl) (by exact rfl) (by exact rfl) (by exact rfl) (by exact rfl) ?_
      refine s_call (vs := []) (by exact rfl) (by exact rfl) (fun w h => alive19_ok w) ?_
      repeat' first
        | refine k_then ?_
        | refine s_nil ?_
        | refine s_assign (by exact rfl) (by exact rfl) ?_
        | refine c_ret ?_
        | refine k_then_ret ?_
      refine ret1 [] rfl rfl (by exact rfl) ⟨rfl, rfl⟩
    have hR0 : rightK n es = 0 := by simpa using hR0
    have hR := right_iff.1 hR0
    rw [hR0]
    by_cases hl100 : 100 < (l.length : Int)
    · repeat' first
        | refine k_then ?_
        | refine c_seq ?_
        | refine c_region ?_
        | refine s_nil ?_
        | refine s_move (by exact rfl) (by exact rfl) ?_
        | refine s_pick_f (by exact rfl) (by exact rfl) (by exact rfl) ?_
        | (refine c_cond_p (by exact rfl) (fun h => ?_) (fun h => ?_) <;> try (exfalso; omega))
        | (refine g_case (by exact rfl) (by exact rfl) (fun h => ?_) (fun h => ?_) <;> try (exfalso; omega))
        | refine w_move (by exact rfl) (by exact rfl) (by exact rfl) (by exact rfl) ?_
        | refine w_gtr (by exact rfl) (by exact rfl) (by exact rfl) (by exact rfl) (by exact rfl) ?_
        | refine w_neq (by exact rfl) (by exact rfl) (by exact rfl) (by exact rfl) (by exact rfl) ?_
        | refine w_len (by exact rfl) (by exact rfl) (by exact rfl) (by exact rfl) (by assumption) ?_
      refine s_call (vs := []) (by exact rfl) (by exact rfl) (fun w h => alive19_ok w) ?_
      repeat' first
        | refine k_then ?_
        | refine s_nil ?_
        | refine s_assign (by exact rfl) (by exact rfl) ?_
        | refine c_ret ?_
        | refine k_then_ret ?_
      refine ret1 [] rfl rfl (by exact rfl) ⟨rfl, rfl⟩
    have hlo := hR.lo
    have hnd : ∀ u, (nearS (tn es) u).Nodup := fun u => (List.mergeSort_perm _ _).nodup_iff.2 (nb_nodup hR u)
    have hsym : ∀ u v, u ∈ nearS (tn es) v → v ∈ nearS (tn es) u := fun u v h => (nearS_lt hR h).2.2.2
    have hirr : ∀ v, v ∉ nearS (tn es) v := fun v h => (nearS_lt hR h).2.2.1 rfl
    have hWF := WF.near hR hnd
    repeat' first
      | refine k_then ?_
      | refine c_seq ?_
      | refine c_region ?_
      | refine s_nil ?_
      | refine s_move (by exact rfl) (by exact rfl) ?_
      | refine s_pick_f (by exact rfl) (by exact rfl) (by exact rfl) ?_
      | refine s_ldk_box (by exact rfl) (by exact rfl) (by exact .head _) (by exact rfl) (by exact rfl) ?_
      | refine c_skip ?_
      | (refine c_cond_p (by exact rfl) (fun h => ?_) (fun h => ?_) <;> try (exfalso; omega))
      | (refine g_case (by exact rfl) (by exact rfl) (fun h => ?_) (fun h => ?_) <;> try (exfalso; omega))
      | refine w_move (by exact rfl) (by exact rfl) (by exact rfl) (by exact rfl) ?_
      | refine w_gtr (by exact rfl) (by exact rfl) (by exact rfl) (by exact rfl) (by exact rfl) ?_
      | refine w_neq (by exact rfl) (by exact rfl) (by exact rfl) (by exact rfl) (by exact rfl) ?_
      | refine w_len (by exact rfl) (by exact rfl) (by exact rfl) (by exact rfl) (by assumption) ?_
    refine o_call (by exact rfl) (by exact rfl) (fun w h => Max_ok n v es w hs (ro_old h hr) hR (by omega)) ?_
    rintro _ _ ⟨va, a, rfl, rfl, hasc, hM⟩
    have hik := indK_ok hR hasc hM
    refine know_row (v := va) (.head _) fun hva _ => ?_
    repeat' first
      | refine k_then ?_
      | refine c_seq ?_
      | refine c_region ?_
      | refine s_nil ?_
      | refine s_move (by exact rfl) (by exact rfl) ?_
      | refine s_assign (by exact rfl) (by exact rfl) ?_
      | refine s_extract (by exact rfl) (by exact rfl) (by exact rfl) ?_
      | refine s_ldk_box (by exact rfl) (by exact rfl) (by exact .tail _ (.head _)) (by exact rfl) (by exact rfl) ?_
    refine o_call (by exact rfl) (by exact rfl) (fun w h => Greedy_ok n v es w hs (ro_old h hr) hR) ?_
    rintro _ _ ⟨vb, T, hT, rfl, rfl⟩
    have hlft : leftN n.toNat (nearF n.toNat (tn es)) ≤ n.toNat := by
      have := List.countP_le_length (l := List.range n.toNat) (p := fun v => (nearF n.toNat (tn es) v).isSome)
      rwa [List.length_range] at this
    have hnF : ∀ v, nearF n.toNat (tn es) v = if v < n.toNat then some (nearS (tn es) v) else none := fun _ => rfl
    obtain ⟨t1, t2, t3, t4⟩ := runG_ind hsym hirr n.toNat (nearF n.toNat (tn es)) hWF hlft (fun b m hm u => by
      rw [hnF] at hm ⊢
      split at hm
      · obtain rfl : _ = m := by simpa using hm
        exact ⟨fun h => ⟨h, by rw [if_pos (nearS_lt hR h).1]; simp⟩, fun h => h.1⟩
      · simp at hm)
    rw [← hT] at t1 t2 t3 t4
    have hTm : ∀ u ∈ T, u < n.toNat := fun u hu => by
      have := t2 u hu
      rw [hnF] at this
      exact Decidable.byContradiction fun hn => this (if_neg hn)
    have hTI : Ind (nearS (tn es)) (sortN T) (fun _ => false) := Ind.perm ⟨t1, t3, fun _ _ _ _ => rfl⟩ (sortN_perm T)
    have hTd : ∀ u, u < n.toNat → u ∈ sortN T ∨ ∃ x ∈ nearS (tn es) u, x ∈ sortN T := fun u hu => by
      rcases t4 u (by rw [hnF, if_pos hu]; simp) with h | ⟨x, h1, h2⟩
      · exact .inl ((sortN_perm T).mem_iff.2 h)
      · exact .inr ⟨x, h2, (sortN_perm T).mem_iff.2 h1⟩
    have hTm2 : ∀ u ∈ sortN T, u < n.toNat := fun u hu => hTm u ((sortN_perm T).mem_iff.1 hu)
    have hcasc := sortN_asc t1
    rw [← (sortN_perm T).length_eq]
    generalize sortN T = c at *
    have hca : c.length ≤ a.length := hM.top c hTI fun u hu => ⟨hTm2 u hu, rfl⟩
    have hik2 : indK n es (c.map fun z : Nat => (z : Int)) = 0 := by
      rw [indK, if_pos hR0, if_pos ⟨okIn_nat hlo hcasc hTm2, indP_nat hR hTI.no⟩]
    refine know_row (v := vb) (.head _) fun hvb _ => ?_
    repeat' first
      | refine k_then ?_
      | refine c_seq ?_
      | refine c_region ?_
      | refine s_nil ?_
      | refine s_move (by exact rfl) (by exact rfl) ?_
      | refine s_assign (by exact rfl) (by exact rfl) ?_
      | refine s_neq (by exact rfl) (by exact rfl) (by exact rfl) ?_
      | refine s_extract (by exact rfl) (by exact rfl) (by exact rfl) ?_
      | refine s_pick_f (by exact rfl) (by exact rfl) (by exact rfl) ?_
      | (refine g_case (by exact rfl) (by exact rfl) (fun h => ?_) (fun h => ?_) <;> try (exfalso; omega))
      | refine w_move (by exact rfl) (by exact rfl) (by exact rfl) (by exact rfl) ?_
      | refine w_lss (by exact rfl) (by exact rfl) (by exact rfl) (by exact rfl) (by exact rfl) ?_
      | refine w_neq (by exact rfl) (by exact rfl) (by exact rfl) (by exact rfl) (by exact rfl) ?_
      | refine w_len (by exact rfl) (by exact rfl) (by exact rfl) (by exact rfl) (by assumption) ?_
      | refine w_ldk_box (by exact rfl) (by exact rfl) (by exact rfl) (by exact rfl) (by exact .tail _ (.tail _ (.head _))) (by exact rfl) (by exact rfl) ?_
      | refine g_on (by exact rfl) (by exact rfl) ?_
    refine s_call (vs := [.agg #[.int .i64 n, v], va]) (by exact rfl) (by exact rfl) (fun w h => refCheck_ok n v va es (a.map fun z : Nat => (z : Int)) w hs (ro_old h hr) (by omega) (by rw [List.length_map]; exact hva) (by rw [← nV_iV]; exact ro_own h (.tail _ (.head _)))) ?_
    rw [hik]
    repeat' first
      | refine s_move (by exact rfl) (by exact rfl) ?_
      | refine s_pick_f (by exact rfl) (by exact rfl) (by exact rfl) ?_
      | (refine g_case (by exact rfl) (by exact rfl) (fun h => ?_) (fun h => ?_) <;> try (exfalso; omega))
      | refine w_move (by exact rfl) (by exact rfl) (by exact rfl) (by exact rfl) ?_
      | refine w_neq (by exact rfl) (by exact rfl) (by exact rfl) (by exact rfl) (by exact rfl) ?_
      | refine w_ldk_box (by exact rfl) (by exact rfl) (by exact rfl) (by exact rfl) (by exact .tail _ (.tail _ (.head _))) (by exact rfl) (by exact rfl) ?_
      | refine g_on (by exact rfl) (by exact rfl) ?_
    refine s_call (vs := [.agg #[.int .i64 n, v], vb]) (by exact rfl) (by exact rfl) (fun w h => refCheck_ok n v vb es (c.map fun z : Nat => (z : Int)) w hs (ro_old h hr) (by omega) (by rw [List.length_map]; exact hvb) (by rw [← nV_iV]; exact ro_own h (.head _))) ?_
    rw [hik2]
    repeat' first
      | refine k_then ?_
      | refine c_seq ?_
      | refine c_region ?_
      | refine s_nil ?_
      | refine s_pick_f (by exact rfl) (by exact rfl) (by exact rfl) ?_
      | refine s_ldk_box (by exact rfl) (by exact rfl) (by exact .tail _ (.tail _ (.head _))) (by exact rfl) (by exact rfl) ?_
      | refine c_skip ?_
      | (refine c_cond_p (by exact rfl) (fun h => ?_) (fun h => ?_) <;> try (exfalso; omega))
      | refine w_neq (by exact rfl) (by exact rfl) (by exact rfl) (by exact rfl) (by exact rfl) ?_
    refine o_call (by exact rfl) (by exact rfl) (fun w h => refNear_ok n v es w hs (ro_old h hr) hR) ?_
    rintro vn _ ⟨hn2, hnl, rfl⟩
    have hnl2 : ((List.range n.toNat).map (nearS (tn es))).length = n.toNat := by simp
    refine know_row (v := vn) (.head _) fun hvn _ => ?_
    repeat' first
      | refine k_then ?_
      | refine c_seq ?_
      | refine c_region ?_
      | refine s_nil ?_
      | refine s_assign (by exact rfl) (by exact rfl) ?_
      | refine c_block ?_
    refine c_loop (fun k : Nat => k ≤ n.toNat) (fun k => [(1, vi), (2, .pointer (some ⟨b, 0, none⟩)), (4, .bool false), (5, va), (7, vb), (9, vn), (10, .int .i64 (k : Int))]) (fun _ => _) (fun k => n.toNat - k) 0 (List.replicate _ 0) (Nat.zero_le _) (pick_id _) ⟨rfl, rfl, rfl, rfl, rfl, rfl, rfl, trivial⟩ ?_
    intro k hk
    by_cases hkl : k < n.toNat
    · obtain ⟨hd, hhd⟩ : ∃ hd, hn2[k]? = some hd := ⟨_, List.getElem?_eq_getElem (by omega)⟩
      have hhd1 : hn2[k * 1]? = some hd := by simpa using hhd
      have hgk : ((List.range n.toNat).map (nearS (tn es)))[k]? = some (nearS (tn es) k) := by simp [hkl]
      have hK : rowHP hd 3 1 (nearS (tn es) k).length (nV (nearS (tn es) k)) ∈ kids rowN hn2 ((List.range n.toNat).map (nearS (tn es))) := kids_mem (f := rowN) hhd hgk
      have hda := hM.dom hsym hirr hkl
      have hdc := hTd k hkl
      refine know_kid (Ks := kids rowN hn2 ((List.range n.toNat).map (nearS (tn es)))) (.tail _ (.head _)) hK fun hhs _ => ?_
      generalize nearS (tn es) k = nr at *
      have hnl3 := hhs.1
      simp only [maxLen] at hnl3
      repeat' first
        | refine k_then ?_
        | refine c_seq ?_
        | refine c_region ?_
        | refine s_nil ?_
        | refine s_move (by exact rfl) (by exact rfl) ?_
        | refine s_fa (by exact rfl) (by exact rfl) ?_
        | refine s_ld_box (by exact rfl) (by exact rfl) (by exact .tail _ (.tail _ (.tail _ (.tail _ (.head _))))) (by exact rfl) ?_
        | refine s_lss (by exact rfl) (by exact rfl) (by exact rfl) ?_
        | refine c_block ?_
        | refine c_skip ?_
        | (refine c_cond_p (by exact rfl) (fun h => ?_) (fun h => ?_) <;> try (exfalso; omega))
      refine s_call (by exact rfl) (by exact rfl) (fun w h => HasN_ok va a k w hva (ro_own h (.tail _ (.tail _ (.tail _ (.head _)))))) ?_
      repeat' first
        | refine s_move (by exact rfl) (by exact rfl) ?_
      refine s_call (by exact rfl) (by exact rfl) (fun w h => HasN_ok vb c k w hvb (ro_own h (.tail _ (.tail _ (.head _))))) ?_
      repeat' first
        | refine k_then ?_
        | refine c_seq ?_
        | refine c_region ?_
        | refine s_nil ?_
        | refine s_assign (by exact rfl) (by exact rfl) ?_
        | refine c_block ?_
      refine c_loop (fun i : Nat => i ≤ nr.length) (fun i => [(1, vi), (2, .pointer (some ⟨b, 0, none⟩)), (4, .bool false), (5, va), (7, vb), (9, vn), (10, .int .i64 (k : Int)), (11, .bool (domB a nr k i)), (12, .bool (domB c nr k i)), (13, .int .i64 (i : Int))]) (fun _ => _) (fun i => nr.length - i) 0 (List.replicate _ 0) (Nat.zero_le _) (pick_id _) ⟨rfl, rfl, rfl, rfl, rfl, rfl, rfl, by rw [show domB a nr k 0 = decide (k ∈ a) by simp [domB]]; rfl, by rw [show domB c nr k 0 = decide (k ∈ c) by simp [domB]]; rfl, rfl, trivial⟩ ?_
      intro i hi
      by_cases hil : i < nr.length
      · obtain ⟨u, hu⟩ : ∃ u, nr[i]? = some u := ⟨_, List.getElem?_eq_getElem hil⟩
        have hcu : (nV nr)[i * 1]? = some (.int .i64 (u : Int)) := by simp [nV, hu]
        have hs_a := domB_succ (l := a) (v := k) hu
        have hs_c := domB_succ (l := c) (v := k) hu
        generalize hreg : Code.region 15 _ _ = creg
        repeat' first
          | refine k_then ?_
          | refine c_seq ?_
          | refine c_region ?_
          | refine s_nil ?_
          | refine s_move (by exact rfl) (by exact rfl) ?_
          | refine s_lss (by exact rfl) (by exact rfl) (by exact rfl) ?_
          | refine s_len (by exact rfl) (by exact rfl) (by assumption) ?_
          | refine s_idx (by exact rfl) (by exact rfl) (by exact rfl) (by assumption) (by first | assumption | omega) ?_
          | refine s_ld_row (by exact rfl) (by exact rfl) (by exact .head _) (by assumption) ?_
          | refine c_block ?_
          | refine c_skip ?_
          | (refine c_cond_p (by exact rfl) (fun h => ?_) (fun h => ?_) <;> try (exfalso; omega))
        subst hreg
        refine c_join (X := Unit) (fun _ => [(1, vi), (2, .pointer (some ⟨b, 0, none⟩)), (4, .bool false), (5, va), (7, vb), (9, vn), (10, .int .i64 (k : Int)), (11, .bool (domB a nr k (i + 1))), (12, .bool (domB c nr k i)), (13, .int .i64 (i : Int))]) (fun _ => [rowHP vn 27 1 n.toNat hn2, starHP (kids rowN hn2 ((List.range n.toNat).map (nearS (tn es)))), rowHP vb 3 1 c.length (nV c), rowHP va 3 1 a.length (nV a), boxHP b 24 [.int .i64 n, v]]) (fun K hk2 => ?_) (fun _ => ?_)
        · cases hx_a : domB a nr k i
          · rw [hx_a, Bool.false_or] at hs_a
            repeat' first
              | refine c_region ?_
              | refine s_move (by exact rfl) (by exact rfl) ?_
              | refine w_move (by exact rfl) (by exact rfl) (by exact rfl) (by exact rfl) ?_
              | refine w_idx (by exact rfl) (by exact rfl) (by exact rfl) (by exact rfl) (by exact rfl) (by assumption) (by first | assumption | omega) ?_
              | refine w_ld_row (by exact rfl) (by exact rfl) (by exact rfl) (by exact rfl) (by exact .head _) (by assumption) ?_
              | refine w_ld_kid (by exact rfl) (by exact rfl) (by exact rfl) (by exact rfl) (by assumption) (by exact .tail _ (.head _)) (by assumption) ?_
              | refine g_on (by exact rfl) (by exact rfl) ?_
            refine s_call (by exact rfl) (by exact rfl) (fun w h => HasN_ok va a u w hva (ro_own h (.tail _ (.tail _ (.tail _ (.head _)))))) ?_
            rw [← hs_a]
            repeat' first
              | refine k_then ?_
              | refine s_nil ?_
              | refine s_assign (by exact rfl) (by exact rfl) ?_
              | refine s_pick_f (by exact rfl) (by exact rfl) (by exact rfl) ?_
            exact j_end hk2 () [0, 0, 0, 0, 0] (by exact rfl) ⟨rfl, rfl, rfl, rfl, rfl, rfl, rfl, (by first | rfl | (rw [hs_a]; rfl)), rfl, rfl, trivial⟩
          · rw [hx_a, Bool.true_or] at hs_a
            repeat' first
              | refine k_then ?_
              | refine c_region ?_
              | refine s_nil ?_
              | refine s_move (by exact rfl) (by exact rfl) ?_
              | refine s_assign (by exact rfl) (by exact rfl) ?_
              | refine s_pick_t (by exact rfl) (by exact rfl) (by exact rfl) ?_
              | refine g_skip (by exact rfl) (by exact rfl) (by exact rfl) (by exact rfl) ?_
            exact j_end hk2 () [0, 0, 0, 0, 0] (by exact rfl) ⟨rfl, rfl, rfl, rfl, rfl, rfl, rfl, (by first | rfl | (rw [hs_a]; rfl)), rfl, rfl, trivial⟩
        · cases hx_c : domB c nr k i
          · rw [hx_c, Bool.false_or] at hs_c
            repeat' first
              | refine c_region ?_
              | refine s_move (by exact rfl) (by exact rfl) ?_
              | refine w_move (by exact rfl) (by exact rfl) (by exact rfl) (by exact rfl) ?_
              | refine w_idx (by exact rfl) (by exact rfl) (by exact rfl) (by exact rfl) (by exact rfl) (by assumption) (by first | assumption | omega) ?_
              | refine w_ld_row (by exact rfl) (by exact rfl) (by exact rfl) (by exact rfl) (by exact .head _) (by assumption) ?_
              | refine w_ld_kid (by exact rfl) (by exact rfl) (by exact rfl) (by exact rfl) (by assumption) (by exact .tail _ (.head _)) (by assumption) ?_
              | refine g_on (by exact rfl) (by exact rfl) ?_
            refine s_call (by exact rfl) (by exact rfl) (fun w h => HasN_ok vb c u w hvb (ro_own h (.tail _ (.tail _ (.head _))))) ?_
            rw [← hs_c]
            repeat' first
              | refine k_then ?_
              | refine c_region ?_
              | refine s_nil ?_
              | refine s_move (by exact rfl) (by exact rfl) ?_
              | refine s_assign (by exact rfl) (by exact rfl) ?_
              | refine s_add (by exact rfl) (by exact rfl) (by exact rfl) (by omega) ?_
              | refine s_pick_f (by exact rfl) (by exact rfl) (by exact rfl) ?_
              | refine k_blk ?_
            refine c_round (i + 1) [0, 0, 0, 0, 0] (by exact rfl) ⟨rfl, rfl, rfl, rfl, rfl, rfl, rfl, rfl, (by first | rfl | (rw [hs_c]; rfl)), rfl, trivial⟩ (by omega) (by omega)
          · rw [hx_c, Bool.true_or] at hs_c
            repeat' first
              | refine k_then ?_
              | refine c_region ?_
              | refine s_nil ?_
              | refine s_move (by exact rfl) (by exact rfl) ?_
              | refine s_assign (by exact rfl) (by exact rfl) ?_
              | refine s_add (by exact rfl) (by exact rfl) (by exact rfl) (by omega) ?_
              | refine s_pick_t (by exact rfl) (by exact rfl) (by exact rfl) ?_
              | refine k_blk ?_
              | refine g_skip (by exact rfl) (by exact rfl) (by exact rfl) (by exact rfl) ?_
            refine c_round (i + 1) [0, 0, 0, 0, 0] (by exact rfl) ⟨rfl, rfl, rfl, rfl, rfl, rfl, rfl, rfl, (by first | rfl | (rw [hs_c]; rfl)), rfl, trivial⟩ (by omega) (by omega)
      · rw [domB_all (by omega) hda, domB_all (by omega) hdc]
        repeat' first
          | refine k_then ?_
          | refine c_seq ?_
          | refine c_region ?_
          | refine s_nil ?_
          | refine s_move (by exact rfl) (by exact rfl) ?_
          | refine s_assign (by exact rfl) (by exact rfl) ?_
          | refine s_lss (by exact rfl) (by exact rfl) (by exact rfl) ?_
          | refine s_add (by exact rfl) (by exact rfl) (by exact rfl) (by omega) ?_
          | refine s_not (by exact rfl) (by exact rfl) ?_
          | refine s_len (by exact rfl) (by exact rfl) (by assumption) ?_
          | refine s_idx (by exact rfl) (by exact rfl) (by exact rfl) (by assumption) (by first | assumption | omega) ?_
          | refine s_pick_f (by exact rfl) (by exact rfl) (by exact rfl) ?_
          | refine s_ld_row (by exact rfl) (by exact rfl) (by exact .head _) (by assumption) ?_
          | refine c_skip ?_
          | refine c_exit ?_
          | refine k_then_exit ?_
          | refine k_blk ?_
          | refine k_blk_eq ?_
          | (refine c_cond_p (by exact rfl) (fun h => ?_) (fun h => ?_) <;> try (exfalso; omega))
          | refine c_cond_f (by exact rfl) ?_
          | refine w_move (by exact rfl) (by exact rfl) (by exact rfl) (by exact rfl) ?_
          | refine w_not (by exact rfl) (by exact rfl) (by exact rfl) (by exact rfl) ?_
        refine c_round (k + 1) (List.replicate _ 0) (pick_id _) ⟨rfl, rfl, rfl, rfl, rfl, rfl, rfl, trivial⟩ (by omega) (by omega)
    · repeat' first
        | refine k_then ?_
        | refine c_seq ?_
        | refine c_region ?_
        | refine s_nil ?_
        | refine s_move (by exact rfl) (by exact rfl) ?_
        | refine s_fa (by exact rfl) (by exact rfl) ?_
        | refine s_ld_box (by exact rfl) (by exact rfl) (by exact .tail _ (.tail _ (.tail _ (.tail _ (.head _))))) (by exact rfl) ?_
        | refine s_lss (by exact rfl) (by exact rfl) (by exact rfl) ?_
        | refine s_ldk_box (by exact rfl) (by exact rfl) (by exact .tail _ (.tail _ (.tail _ (.tail _ (.head _))))) (by exact rfl) (by exact rfl) ?_
        | refine c_exit ?_
        | refine k_then_exit ?_
        | refine k_blk_eq ?_
        | (refine c_cond_p (by exact rfl) (fun h => ?_) (fun h => ?_) <;> try (exfalso; omega))
      refine s_call (vs := [.agg #[.int .i64 n, v], vi]) (by exact rfl) (by exact rfl) (fun w h => Check_ok n v vi es l w hs (ro_old h hr) (by omega) hs2 (ro_old h hr2)) ?_
      by_cases hc0 : indK n es l = 0
      · rw [hc0]
        have hok := hc0
        rw [indK, if_pos hR0] at hok
        have hok : okIn n l ∧ indP es l := Decidable.byContradiction fun hn => by rw [if_neg hn] at hok; simp at hok
        have hla : l.length ≤ a.length := by
          have := hM.top (l.map Int.toNat) ⟨?_, ?_, fun _ _ _ _ => rfl⟩ ?_
          · simpa using this
          · rw [List.Nodup, List.pairwise_map]
            exact (List.Pairwise.and_mem.1 hok.1.2).imp fun ⟨h1, h2, h3⟩ => by
              have := hok.1.1 _ h1
              have := hok.1.1 _ h2
              omega
          · intro x hx y hy hxy
            obtain ⟨p, hp, rfl⟩ := List.mem_map.1 hx
            obtain ⟨q, hq, rfl⟩ := List.mem_map.1 hy
            have x0 := hok.1.1 _ hp
            have y0 := hok.1.1 _ hq
            rw [mem_nearS, mem_nb hR.tn_ne, mem_tn, mem_tn] at hxy
            rcases hxy with ⟨e, he, e1, e2⟩ | ⟨e, he, e1, e2⟩
            · have := hR.ok e he
              unfold okE at this
              exact hok.2 e he ⟨by rwa [show e.1 = q by omega], by rwa [show e.2.1 = p by omega]⟩
            · have := hR.ok e he
              unfold okE at this
              exact hok.2 e he ⟨by rwa [show e.1 = p by omega], by rwa [show e.2.1 = q by omega]⟩
          · intro x hx
            obtain ⟨p, hp, rfl⟩ := List.mem_map.1 hx
            have x0 := hok.1.1 _ hp
            exact ⟨by omega, rfl⟩
        repeat' first
          | refine s_move (by exact rfl) (by exact rfl) ?_
          | refine s_neq (by exact rfl) (by exact rfl) (by exact rfl) ?_
          | refine s_pick_f (by exact rfl) (by exact rfl) (by exact rfl) ?_
          | (refine g_case (by exact rfl) (by exact rfl) (fun h => ?_) (fun h => ?_) <;> try (exfalso; omega))
          | refine w_move (by exact rfl) (by exact rfl) (by exact rfl) (by exact rfl) ?_
          | refine w_leq (by exact rfl) (by exact rfl) (by exact rfl) (by exact rfl) (by exact rfl) ?_
          | refine w_len (by exact rfl) (by exact rfl) (by exact rfl) (by exact rfl) (by assumption) ?_
          | refine g_on (by exact rfl) (by exact rfl) ?_
        refine s_call (vs := []) (by exact rfl) (by exact rfl) (fun w h => alive19_ok w) ?_
        repeat' first
          | refine k_then ?_
          | refine s_nil ?_
          | refine s_assign (by exact rfl) (by exact rfl) ?_
          | refine s_pick_t (by exact rfl) (by exact rfl) (by exact rfl) ?_
          | refine c_ret ?_
        refine ret1 [] rfl rfl (by exact rfl) ⟨rfl, rfl⟩
      · repeat' first
          | refine s_move (by exact rfl) (by exact rfl) ?_
          | refine s_neq (by exact rfl) (by exact rfl) (by exact rfl) ?_
          | refine s_pick_t (by exact rfl) (by exact rfl) (by exact rfl) ?_
          | (refine g_case (by exact rfl) (by exact rfl) (fun h => ?_) (fun h => ?_) <;> try (exfalso; omega))
          | refine g_skip (by exact rfl) (by exact rfl) (by exact rfl) (by exact rfl) ?_
          | refine g_on (by exact rfl) (by exact rfl) ?_
        refine s_call (vs := []) (by exact rfl) (by exact rfl) (fun w h => alive19_ok w) ?_
        repeat' first
          | refine k_then ?_
          | refine s_nil ?_
          | refine s_assign (by exact rfl) (by exact rfl) ?_
          | refine s_pick_t (by exact rfl) (by exact rfl) (by exact rfl) ?_
          | refine c_ret ?_
        refine ret1 [] rfl rfl (by exact rfl) ⟨rfl, rfl⟩
end Go.Proofs.Ytkekpgkacjpjnaa
end
section
namespace Go.Proofs.Ytkekpgkacjpjnaa
open Go.ChangeShapes Go.WideShapes Go.ChangeAt Go.RowKit Go.Joins Go.Deep Go.Sl Fil
set_option maxRecDepth 100000
set_option linter.unusedVariables false
set_option linter.unusedSimpArgs false
theorem row_own : ownKnob Try.prog.godebug = none := by kernel_rfl
theorem row_laid : laidOutB Try.prog = true := by kernel_rfl
theorem cells_graph : Try.prog.cellsOf 24 = 2 := by kernel_rfl
theorem cells_edge : Try.prog.cellsOf 47 = 3 := by kernel_rfl
theorem cells_int : Try.prog.cellsOf 3 = 1 := by kernel_rfl
section
variable {H : Type} {enc : TypeId × Value → H}
theorem slice_spot {P : Program} {w : World} {r : Reach} {base : Nat} {t e : TypeId} {a : Addr} {len cap : Nat} (hu : P.underlying t = some (.slice e)) (h : Cell.okWide P w r base t (.slice (some a) len cap)) : a.spot = none := by
  simp only [Cell.okWide, hu, Cell.ok, World.has] at h
  exact h.2.2.2.1
theorem es_list {n : Nat} {f : Nat → Nat → Value} (h : ∀ i, i < n → ∃ a b c, f i 0 = .int .i64 a ∧ f i 1 = .int .i64 b ∧ f i 2 = .int .i64 c) : ∃ es : List E, es.length = n ∧ ∀ (i : Nat) j u, i < n → j < 3 → (esV es)[i * 3 + j]? = some u → u = f i j := by
  induction n with
  | zero => exact ⟨[], rfl, fun i j u hi => by omega⟩
  | succ n ih =>
    obtain ⟨es, h1, h2⟩ := ih fun i hi => h i (by omega)
    obtain ⟨a, b, c, ha, hb, hc⟩ := h n (by omega)
    refine ⟨es ++ [(a, b, c)], by simp [h1], fun i j u hi hj hu => ?_⟩
    rw [esV_snoc] at hu
    have hl := esV_length es
    by_cases hin : i < n
    · rw [List.getElem?_append_left (by omega)] at hu
      exact h2 i j u hin hj hu
    · obtain rfl : i = n := by omega
      rw [List.getElem?_append_right (by omega), show i * 3 + j - (esV es).length = j from by omega] at hu
      match j, hj with
      | 0, _ => simp [eV] at hu; rw [← hu, ha]
      | 1, _ => simp [eV] at hu; rw [← hu, hb]
      | 2, _ => simp [eV] at hu; rw [← hu, hc]
theorem open_edges {W : World} {base fuel : Nat} {v : Value} {y : DataW H × List MemPlace} (hv : Cell.okWide Try.prog W .any base 22 v) (h : DataW.trod enc Try.prog W 0 (fun _ => true) true fuel 22 [v] = some y) :
    ∃ es : List E, Shp v es.length ∧ RO W No v (esV es) := by
  rcases open_slice Try.underlying22 h with ⟨hcs, _⟩ | ⟨a, len, cap, m, n, D, Pl, hcs, _, hl, hm, hmm, _, hx⟩
  · simp only [List.cons.injEq, and_true] at hcs
    subst hcs
    exact ⟨[], ⟨by simp [maxLen], .inl ⟨rfl, rfl⟩⟩, RO.of_rd fun j u hj => by simp [esV] at hj⟩
  · simp only [List.cons.injEq, and_true] at hcs
    subst hcs
    have hsp := slice_spot Try.underlying22 hv
    obtain ⟨g, off, sp⟩ := a
    dsimp only at hsp
    subst hsp
    simp only [if_true] at hmm
    subst hmm
    have key : ∀ i, i < len → ∃ a b c, W.cell? ⟨g, off + (i * 3 + 0), none⟩ = some (.int .i64 a) ∧ W.cell? ⟨g, off + (i * 3 + 1), none⟩ = some (.int .i64 b) ∧ W.cell? ⟨g, off + (i * 3 + 2), none⟩ = some (.int .i64 c) := by
      intro i hi
      obtain ⟨cs, h1, h2⟩ := hx i (by omega)
      rw [cells_edge] at h1
      obtain ⟨_, hlen, hc⟩ := World.cells?_some h1
      obtain ⟨y0, y1, y2, k, _, _, t0, t1, t2⟩ := trod_struct3 Try.underlying47 h2
      obtain ⟨a, e0, -, -⟩ := DataW.trod_int Try.underlying3 t0
      obtain ⟨b, e1, -, -⟩ := DataW.trod_int Try.underlying3 t1
      obtain ⟨c, e2, -, -⟩ := DataW.trod_int Try.underlying2 t2
      match cs, hlen, hc, e0, e1, e2 with
      | [x0, x1, x2], _, hc, e0, e1, e2 =>
        have c0 := hc 0 (by omega)
        have c1 := hc 1 (by omega)
        have c2 := hc 2 (by omega)
        have f0 : x0 = .int .i64 a := by
          have : [x0] = [.int .i64 a] := e0
          simpa using this
        have f1 : x1 = .int .i64 b := by
          have : [x1] = [.int .i64 b] := e1
          simpa using this
        have f2 : x2 = .int .i64 c := by
          have : [x2] = [.int .i64 c] := e2
          simpa using this
        subst f0 f1 f2
        refine ⟨a, b, c, ?_, ?_, ?_⟩
        · rw [Deep.add_add] at c0
          rw [show (⟨g, off + (i * 3 + 0), none⟩ : Addr) = (⟨g, off, none⟩ : Addr).add (i * 3 + 0) from by simp [Addr.add]]
          exact c0
        · rw [Deep.add_add] at c1
          rw [show (⟨g, off + (i * 3 + 1), none⟩ : Addr) = (⟨g, off, none⟩ : Addr).add (i * 3 + 1) from by simp [Addr.add]]
          exact c1
        · rw [Deep.add_add] at c2
          rw [show (⟨g, off + (i * 3 + 2), none⟩ : Addr) = (⟨g, off, none⟩ : Addr).add (i * 3 + 2) from by simp [Addr.add]]
          exact c2
    obtain ⟨es, he1, he2⟩ := es_list (n := len) (f := fun i j => (W.cell? ⟨g, off + (i * 3 + j), none⟩).getD undef) (fun i hi => by
      obtain ⟨a, b, c, h0, h1, h2⟩ := key i hi
      exact ⟨a, b, c, congrArg (fun x => Option.getD x undef) h0, congrArg (fun x => Option.getD x undef) h1, congrArg (fun x => Option.getD x undef) h2⟩)
    subst he1
    refine ⟨es, ⟨by omega, .inr ⟨g, off, m, rfl, hl, hm⟩⟩, RO.of_rd fun j u hj => ⟨g, off, es.length, m, rfl, ?_⟩⟩
    have hlt := (List.getElem?_eq_some_iff.1 hj).1
    rw [esV_length] at hlt
    have hd : j / 3 * 3 + j % 3 = j := by omega
    have hu := he2 (j / 3) (j % 3) u (by omega) (by omega) (by rw [hd]; exact hj)
    rw [hd] at hu
    obtain ⟨a, b, c, h0, h1, h2⟩ := key (j / 3) (by omega)
    have hex : ∃ x, W.cell? ⟨g, off + j, none⟩ = some x := by
      have : j % 3 = 0 ∨ j % 3 = 1 ∨ j % 3 = 2 := by omega
      rcases this with h | h | h
      · exact ⟨_, by rw [← hd, h]; exact h0⟩
      · exact ⟨_, by rw [← hd, h]; exact h1⟩
      · exact ⟨_, by rw [← hd, h]; exact h2⟩
    obtain ⟨x, hx⟩ := hex
    rw [hx] at hu ⊢
    rw [hu]
    rfl
theorem open_graph {W : World} {base : Nat} {v : Value} {d : DataW H} {p : List MemPlace} (hv : Value.okWide Try.prog W .any base 24 v) (h : DataW.Trod enc Try.prog W 0 (fun _ => true) true 24 v d p) :
    ∃ (n : Int) (u : Value) (es : List E), v = .agg #[.int .i64 n, u] ∧ Shp u es.length ∧ RO W No u (esV es) := by
  obtain ⟨c0, c1, y0, y1, m, rfl, -, -, hy0, hy1⟩ := open_agg2 Try.underlying24 (by kernel_rfl) cells_graph hv h
  obtain ⟨a, e0, -, -⟩ := DataW.trod_int Try.underlying3 hy0
  simp only [List.cons.injEq, and_true] at e0
  subst e0
  have hc : Cell.okWide Try.prog W .any base 22 c1 := by
    simp only [Value.okWide, Try.underlying24] at hv
    obtain ⟨cs, hcs, _, ts, hts, _, hall⟩ := hv
    obtain rfl : cs = #[.int .i64 a, c1] := by simpa using hcs.symm
    have e : Try.prog.cellTypes Try.prog.depth 24 = some [3, 22] := by kernel_rfl
    rw [e] at hts
    obtain rfl : [3, 22] = ts := by simpa using hts
    obtain ⟨u, hu, hok⟩ := hall 1 c1 rfl
    obtain rfl : 22 = u := by simpa using hu
    exact hok
  obtain ⟨es, h1, h2⟩ := open_edges hc hy1
  exact ⟨a, c1, es, rfl, h1, h2⟩
end
end Go.Proofs.Ytkekpgkacjpjnaa
end
section
namespace Go.Proofs.Ytkekpgkacjpjnaa
open Go.ChangeShapes Go.WideShapes Go.ChangeAt Go.RowKit Go.Joins Go.Deep Go.Sl Fil
set_option maxRecDepth 100000
set_option linter.unusedVariables false
set_option linter.unusedSimpArgs false
section
variable {H : Type} {enc : TypeId × Value → H}
theorem okc_one {W : World} {base : Nat} {v x : Value} (hc : Cell.okWide Try.prog W .any base 27 v) (h : v.cells.toList = [x]) : v = x := by
  cases v with
  | agg cs => simp [Cell.okWide, Try.underlying27, Cell.ok] at hc
  | _ => simpa [Value.cells] using h
theorem open_numbersw {W : World} {base : Nat} {v : Value} {d : DataW H} {p : List MemPlace} (hv : Value.okWide Try.prog W .any base 27 v) (h : DataW.Trod enc Try.prog W 0 (fun _ => true) true 27 v d p) :
    ∃ zs : List Int, Shp v zs.length ∧ RO W No v (iV zs) ∧ ∀ z ∈ zs, (Lit.int .i64 z).wf = true := by
  obtain ⟨fuel, hf⟩ := h
  have hc : Cell.okWide Try.prog W .any base 27 v := by
    simp only [Value.okWide, Try.underlying27] at hv
    exact hv
  rcases open_ints Try.underlying27 Try.underlying3 cells_int hf with ⟨hcs, _⟩ | ⟨a, len, cap, zs, hcs, _, hl, hm, hzl, _, hx, hw⟩
  · have hv0 : v = .slice none 0 0 := okc_one hc hcs
    subst hv0
    exact ⟨[], ⟨by simp [maxLen], .inl ⟨rfl, rfl⟩⟩, RO.of_rd fun j u hj => by simp [iV] at hj, by simp⟩
  · have hv0 : v = .slice (some a) len cap := okc_one hc hcs
    subst hv0
    have hsp := slice_spot Try.underlying27 hc
    obtain ⟨g, off, sp⟩ := a
    dsimp only at hsp
    subst hsp
    rw [if_pos rfl] at hzl
    have htl : (zs.take len).length = len := by rw [List.length_take]; omega
    refine ⟨zs.take len, ⟨by rw [htl]; omega, .inr ⟨g, off, cap, by rw [htl], by rw [htl]; exact hl, hm⟩⟩, RO.of_rd fun j u hj => ⟨g, off, len, cap, rfl, ?_⟩, fun z hz => hw z (List.mem_of_mem_take hz)⟩
    have hlt := (List.getElem?_eq_some_iff.1 hj).1
    simp only [iV, List.length_map, htl] at hlt
    have h2 := hx j (by omega)
    rw [show (⟨g, off, none⟩ : Addr).add j = ⟨g, off + j, none⟩ from by simp [Addr.add]] at h2
    rw [h2, ← hj]
    simp only [iV, List.getElem?_map, List.getElem?_take, if_pos hlt]
    rw [List.getD_eq_getElem?_getD, List.getElem?_eq_getElem (by omega)]
    rfl
theorem open_numbers {W : World} {base : Nat} {v : Value} {d : DataW H} {p : List MemPlace} (hv : Value.okWide Try.prog W .any base 27 v) (h : DataW.Trod enc Try.prog W 0 (fun _ => true) true 27 v d p) :
    ∃ zs : List Int, Shp v zs.length ∧ RO W No v (iV zs) := (open_numbersw hv h).imp fun _ h => ⟨h.1, h.2.1⟩
end
end Go.Proofs.Ytkekpgkacjpjnaa
end
section
namespace Fil
def lessL (gone : List Int) (es : List E) : List E := (es.zipIdx.filter fun p => !decide ((p.2 : Int) ∈ gone)).map Prod.fst
theorem lessL_take {gone : List Int} {es : List E} {k : Nat} {e : E} (h : es[k]? = some e) : lessL gone (es.take (k + 1)) = lessL gone (es.take k) ++ (if (k : Int) ∈ gone then [] else [e]) := by
  have hl := (List.getElem?_eq_some_iff.1 h).1
  rw [List.take_add_one, h, lessL, Option.toList_some, List.zipIdx_append, List.filter_append, List.map_append, lessL]
  congr 1
  simp only [List.length_take, Nat.min_eq_left (Nat.le_of_lt hl), List.zipIdx_singleton]
  by_cases hk : (k : Int) ∈ gone <;> simp [hk]
theorem lessL_length (gone : List Int) (es : List E) : (lessL gone es).length ≤ es.length := by
  have := List.length_filter_le (fun p : E × Nat => !decide ((p.2 : Int) ∈ gone)) es.zipIdx
  simpa [lessL] using this
theorem lessL_sub (gone : List Int) (es : List E) : (lessL gone es).Sublist es := by
  have h := (List.filter_sublist (p := fun p : E × Nat => !decide ((p.2 : Int) ∈ gone)) (l := es.zipIdx)).map Prod.fst
  rwa [List.zipIdx_map_fst] at h
theorem RightG.sub {n : Int} {es fs : List E} (h : RightG n es) (hs : fs.Sublist es) : RightG n fs :=
  ⟨h.lo, h.hi, Nat.le_trans hs.length_le h.many, fun e he => h.ok e (hs.mem he), h.sorted.sublist hs⟩
end Fil
namespace Go.Proofs.Ytkekpgkacjpjnaa
open Go Go.RowKit Go.Sl Fil
set_option maxRecDepth 100000
set_option maxHeartbeats 8000000
set_option linter.unusedVariables false
set_option linter.unusedSimpArgs false
attribute [local irreducible] Code.wp wpList bodyPost wpQuiet Exit.then Exit.inBlock Post wpAnyH wpOp
theorem refLess_ok (n : Int) (v : Value) (es : List E) (vk : Value) (gone : List Int) (w : World) (hs : Shp v es.length) (hr : RO w No v (esV es)) (hm : es.length ≤ 4194304) (hks : Shp vk gone.length) (hkr : RO w No vk (iV gone)) :
    Calls Try.prog 57 #[.agg #[.int .i64 n, v], vk] w (Post w No fun r L' => ∃ vo, r = .agg #[.int .i64 n, vo] ∧ L' = [rowHP vo 47 3 (lessL gone es).length (esV (lessL gone es))]) := by
  refine enter0 (vs := [_, _]) Try.func57 rfl Try.ntmps57 rfl ?_
  repeat' first
    | refine k_then ?_
    | refine c_seq ?_
    | refine c_region ?_
    | refine s_nil ?_
    | refine s_fa (by exact rfl) (by exact rfl) ?_
    | refine s_ld_box (by exact rfl) (by exact rfl) (by exact .tail _ (.head _)) (by exact rfl) ?_
    | refine o_box (by exact rfl) (by exact rfl) (fun b => ?_)
    | refine o_alloc (by exact rfl) (fun b => ?_)
  revert b; intro b4
  revert b; intro b2
  refine o_build [(0, .int .i64 n, [.int .i64 n])] (by exact rfl) (by exact rfl) (by simp [Value.cells]) (by exact rfl) ?_
  repeat' first
    | refine o_alloc (by exact rfl) (fun b => ?_)
  revert b; intro b5
  refine o_stk_box (i := 0) (us := [.int .i64 n, .slice none 0 0]) (by exact rfl) (by exact rfl) (by exact rfl) (by exact rfl) (by exact rfl) (by simp [Value.oneCell']) (by simp [Value.cells]) ?_
  repeat' first
    | refine k_then ?_
    | refine c_seq ?_
    | refine c_region ?_
    | refine s_nil ?_
    | refine s_assign (by exact rfl) (by exact rfl) ?_
    | refine c_block ?_
  refine c_nil 47 3 ?_
  refine c_loop (fun x : Nat × Value => x.1 ≤ es.length) (fun x => [(1, vk), (2, .pointer (some ⟨b2, 0, none⟩)), (4, .pointer (some ⟨b4, 0, none⟩)), (5, .pointer (some ⟨b5, 0, none⟩)), (6, .int .i64 (x.1 : Int))])
    (fun x => [rowHP x.2 47 3 (lessL gone (es.take x.1)).length (esV (lessL gone (es.take x.1))), boxHP b5 24 [.int .i64 n, x.2], boxHP b4 24 [.int .i64 0, .slice none 0 0], boxHP b2 24 [.int .i64 n, v]]) (fun x => es.length - x.1) (0, .slice none 0 0) [0, 0, 0, 0] (Nat.zero_le _) (by exact rfl) ⟨rfl, rfl, rfl, rfl, rfl, trivial⟩ ?_
  rintro ⟨k, vx⟩ hk
  dsimp only at hk ⊢
  refine know_row (v := vx) (.head _) fun hvx _ => ?_
  by_cases hlt : k < es.length
  · obtain ⟨e, he⟩ : ∃ e, es[k]? = some e := ⟨_, List.getElem?_eq_getElem hlt⟩
    have hE := esV_at he
    have hcnt : (lessL gone (es.take k)).length ≤ k := Nat.le_trans (lessL_length _ _) (by rw [List.length_take]; omega)
    have htk := lessL_take (gone := gone) he
    repeat' first
      | refine k_then ?_
      | refine c_seq ?_
      | refine c_region ?_
      | refine s_nil ?_
      | refine s_move (by exact rfl) (by exact rfl) ?_
      | refine s_fa (by exact rfl) (by exact rfl) ?_
      | refine s_ld_box (by exact rfl) (by exact rfl) (by exact .tail _ (.tail _ (.tail _ (.head _)))) (by exact rfl) ?_
      | refine s_lss (by exact rfl) (by exact rfl) (by exact rfl) ?_
      | refine s_len (by exact rfl) (by exact rfl) (by assumption) ?_
      | refine c_block ?_
      | refine c_skip ?_
      | (refine c_cond_p (by exact rfl) (fun h => ?_) (fun h => ?_) <;> try (exfalso; omega))
    refine s_call (by exact rfl) (by exact rfl) (fun w h => Has_ok vk gone k w hks (ro_old h hkr)) ?_
    by_cases hg : (k : Int) ∈ gone
    · rw [if_pos hg, List.append_nil] at htk
      rw [decide_eq_true hg]
      repeat' first
        | refine k_then ?_
        | refine c_region ?_
        | refine s_nil ?_
        | refine s_move (by exact rfl) (by exact rfl) ?_
        | refine s_assign (by exact rfl) (by exact rfl) ?_
        | refine s_add (by exact rfl) (by exact rfl) (by exact rfl) (by omega) ?_
        | refine s_not (by exact rfl) (by exact rfl) ?_
        | refine c_skip ?_
        | refine k_blk ?_
        | refine c_cond_f (by exact rfl) ?_
      refine c_round (k + 1, vx) [0, 0, 0, 0] (by dsimp only; rw [htk]; rfl) ⟨rfl, rfl, rfl, rfl, rfl, trivial⟩ (by dsimp only; omega) (by dsimp only; omega)
    · rw [if_neg hg] at htk
      rw [decide_eq_false hg]
      repeat' first
        | refine k_then ?_
        | refine s_nil ?_
        | refine s_not (by exact rfl) (by exact rfl) ?_
        | refine c_cond_t (by exact rfl) ?_
      refine p_begin2 [(0, true), (1, true), (2, true), (3, true), (4, true), (5, true), (6, true), (7, false), (8, false)] [(9, true), (10, false)] [boxHP b5 24 [.int .i64 n, vx], boxHP b4 24 [.int .i64 0, .slice none 0 0], boxHP b2 24 [.int .i64 n, v]] (by kernel_rfl) ?_
      repeat' first
        | (refine p_at (by exact rfl) ?_
           first
            | refine t_move (by exact rfl) (by exact rfl) (by exact fun _ h => h.tl) ?_
            | refine t_fa (by exact rfl) (by exact rfl) (by exact fun _ h => h.tl) ?_
            | refine t_ld_box (by exact rfl) (by exact rfl) (by first | exact .head _ | exact .tail _ (.tail _ (.head _))) (by exact rfl) (by exact fun _ h => h.tl) ?_
            | refine t_idx (by exact rfl) (by exact rfl) (by exact rfl) (by assumption) (by first | assumption | omega) (by exact fun _ h => h.tl) ?_
            | refine t_ldk_ro (by exact rfl) (by exact rfl) (by assumption) (by decide) (by assumption) (by exact rfl) (by exact fun _ h => h.tl) ?_)
      refine p_mk (sz := 3) [.agg (eV e).toArray] (by exact rfl) (by exact rfl) (by exact rfl) rfl (by simp [Value.cells, eV]) (by simp) (by simp) (fun _ _ h => h.tl.tl) fun v2 hv2 => ?_
      refine p_append_row (bytes := 24) (c := 1) (j := 1) (by exact rfl) (by exact rfl) (by exact rfl) (by exact rfl) (by exact rfl) (.head _) (by simp [Value.cells, eV]) (by simp [Value.cells, eV, Value.oneCell']) (by omega) (fun _ _ h => h.tl.tl) (fun v3 hv3 => ?_)
      refine p_nil ?_
      refine p_cut [boxHP b4 24 [.int .i64 0, .slice none 0 0]] (fun _ h => h.pick [3] (by exact rfl)) ?_
      refine p_at (by exact rfl) ?_
      refine t_fa (by exact rfl) (by exact rfl) (fun _ h => h.pick [3] (by exact rfl)) ?_
      refine p_st_box (j := 2) (by exact rfl) (by exact rfl) (by exact rfl) (by exact rfl) hv3.one (by simp) (fun _ h => h.pick [3] (by exact rfl)) ?_
      refine p_nil ?_
      repeat' first
        | refine k_then ?_
        | refine c_region ?_
        | refine s_nil ?_
        | refine s_move (by exact rfl) (by exact rfl) ?_
        | refine s_assign (by exact rfl) (by exact rfl) ?_
        | refine s_add (by exact rfl) (by exact rfl) (by exact rfl) (by omega) ?_
        | refine k_blk ?_
      refine c_round (k + 1, v3) [1, 1, 1, 1] ?_ ⟨rfl, rfl, rfl, rfl, rfl, trivial⟩ (by dsimp only; omega) (by dsimp only; omega)
      dsimp only
      rw [htk, esV_append, List.length_append]
      rfl
  · repeat' first
      | refine k_then ?_
      | refine c_seq ?_
      | refine c_region ?_
      | refine s_nil ?_
      | refine s_move (by exact rfl) (by exact rfl) ?_
      | refine s_fa (by exact rfl) (by exact rfl) ?_
      | refine s_ld_box (by exact rfl) (by exact rfl) (by exact .tail _ (.tail _ (.tail _ (.head _)))) (by exact rfl) ?_
      | refine s_lss (by exact rfl) (by exact rfl) (by exact rfl) ?_
      | refine s_len (by exact rfl) (by exact rfl) (by assumption) ?_
      | refine s_ldk_box (by exact rfl) (by exact rfl) (by exact .tail _ (.head _)) (by exact rfl) (by exact rfl) ?_
      | refine c_exit ?_
      | refine k_then_exit ?_
      | refine k_blk_eq ?_
      | (refine c_cond_p (by exact rfl) (fun h => ?_) (fun h => ?_) <;> try (exfalso; omega))
    obtain rfl : k = es.length := by omega
    refine o_stk_box (i := 2) (us := [.int .i64 n, vx]) (by exact rfl) (by exact rfl) (by exact rfl) (by exact rfl) (by exact rfl) (by
      intro u hu
      simp only [List.mem_cons, List.not_mem_nil, or_false] at hu
      rcases hu with rfl | rfl
      · rfl
      · exact hvx.one) (by simp [Value.cells]) ?_
    repeat' first
      | refine k_then ?_
      | refine s_nil ?_
      | refine c_ret ?_
    refine retL [.cell 4 24] [.agg #[.int .i64 n, vx]] [0] rfl ⟨res_cellk (tb := 24) (cs := [.int .i64 n, vx]) rfl (.tail _ (.tail _ (.head _))) rfl rfl, trivial⟩ (by exact rfl) ⟨vx, rfl, ?_⟩
    rw [List.take_length]
theorem Bridges_ok (n : Int) (v : Value) (es : List E) (lab : Nat → Nat) (labs : Nat → Nat → Nat) (o : Nat → Nat) (os : Nat → Nat → Nat) (w : World) (hs : Shp v es.length) (hr : RO w No v (esV es)) (hR : RightG n es) (hL : Lev n.toNat (nb (tn es)) o lab) (hLs : ∀ i : Nat, Lev n.toNat (nb (tn (lessL [(i : Int)] es))) (os i) (labs i)) :
    Calls Try.prog 32 #[.agg #[.int .i64 n, v]] w (Post w No fun r L' => ∃ out : List Nat, out = (List.range es.length).filter (fun i => decide ((compsS n.toNat lab).length < (compsS n.toNat (labs i)).length)) ∧ L' = [rowHP r 3 1 out.length (nV out)]) := by
  have hlo := hR.lo
  have hhi := hR.hi
  have hm := hR.many
  refine enter0 (vs := [_]) Try.func32 rfl Try.ntmps32 rfl ?_
  repeat' first
    | refine k_then ?_
    | refine c_seq ?_
    | refine c_region ?_
    | refine s_nil ?_
    | refine s_assign (by exact rfl) (by exact rfl) ?_
    | refine s_ldk_box (by exact rfl) (by exact rfl) (by exact .head _) (by exact rfl) (by exact rfl) ?_
    | refine o_box (by exact rfl) (by exact rfl) (fun b => ?_)
  revert b; intro b1
  refine o_call (by exact rfl) (by exact rfl) (fun w h => refComps_ok n v es o lab w hs (ro_old h hr) hR hL) ?_
  rintro vc _ ⟨hc, hcl, rfl⟩
  refine know_row (v := vc) (.head _) fun hvc _ => ?_
  have hcN : (compsS n.toNat lab).length ≤ n.toNat := compsI_length _ _ lab
  repeat' first
    | refine k_then ?_
    | refine c_seq ?_
    | refine c_region ?_
    | refine s_nil ?_
    | refine s_assign (by exact rfl) (by exact rfl) ?_
    | refine s_len (by exact rfl) (by exact rfl) (by assumption) ?_
    | refine c_block ?_
  refine c_nil 3 1 ?_
  refine c_loop (fun x : Nat × List Nat × Value => x.1 ≤ es.length ∧ x.2.1 = (List.range x.1).filter (fun i => decide ((compsS n.toNat lab).length < (compsS n.toNat (labs i)).length))) (fun x => [(1, .pointer (some ⟨b1, 0, none⟩)), (3, x.2.2), (4, .int .i64 ((compsS n.toNat lab).length : Int)), (5, .int .i64 (x.1 : Int))])
    (fun x => [rowHP x.2.2 3 1 x.2.1.length (nV x.2.1), boxHP b1 24 [.int .i64 n, v]]) (fun x => es.length - x.1) (0, [], .slice none 0 0) [0, 2] ⟨Nat.zero_le _, rfl⟩ (by exact rfl) ⟨rfl, rfl, rfl, rfl, trivial⟩ ?_
  rintro ⟨k, out, vx⟩ ⟨hk, hout⟩
  dsimp only at hk hout ⊢
  have hol : out.length ≤ k := by
    rw [hout]
    have := List.length_filter_le (fun i => decide ((compsS n.toNat lab).length < (compsS n.toNat (labs i)).length)) (List.range k)
    rwa [List.length_range] at this
  by_cases hlt : k < es.length
  · have hnx : (List.range (k + 1)).filter (fun i => decide ((compsS n.toNat lab).length < (compsS n.toNat (labs i)).length)) = out ++ (if (compsS n.toNat lab).length < (compsS n.toNat (labs k)).length then [k] else []) := by
      rw [List.range_succ, List.filter_append, ← hout]
      split <;> simp [*]
    repeat' first
      | refine k_then ?_
      | refine c_seq ?_
      | refine c_region ?_
      | refine s_nil ?_
      | refine s_move (by exact rfl) (by exact rfl) ?_
      | refine s_fa (by exact rfl) (by exact rfl) ?_
      | refine s_ld_box (by exact rfl) (by exact rfl) (by exact .tail _ (.head _)) (by exact rfl) ?_
      | refine s_lss (by exact rfl) (by exact rfl) (by exact rfl) ?_
      | refine s_len (by exact rfl) (by exact rfl) (by assumption) ?_
      | refine s_ldk_box (by exact rfl) (by exact rfl) (by exact .tail _ (.head _)) (by exact rfl) (by exact rfl) ?_
      | refine c_block ?_
      | refine c_skip ?_
      | (refine c_cond_p (by exact rfl) (fun h => ?_) (fun h => ?_) <;> try (exfalso; omega))
    refine o_mk [.int .i64 (k : Int)] (by exact rfl) (by exact rfl) rfl ?_ ?_ (by simp) fun vi hvi => ?_
    · simp [Value.cells]
    · simp
    skip
    refine o_call (by exact rfl) (by exact rfl) (fun w h => refLess_ok n v es vi [(k : Int)] w hs (ro_old h hr) hm hvi (ro_own h (.head _))) ?_
    rintro _ _ ⟨vl, rfl, rfl⟩
    refine know_row (v := vl) (.head _) fun hvl _ => ?_
    skip
    refine o_call (by exact rfl) (by exact rfl) (fun w h => refComps_ok n vl (lessL [(k : Int)] es) (os k) (labs k) w hvl (ro_own h (.head _)) (hR.sub (lessL_sub _ _)) (hLs k)) ?_
    rintro vd _ ⟨hd, hdl, rfl⟩
    refine know_row (v := vd) (.head _) fun hvd _ => ?_
    have hcN2 : (compsS n.toNat (labs k)).length ≤ n.toNat := compsI_length _ _ (labs k)
    repeat' first
      | refine k_then ?_
      | refine c_region ?_
      | refine s_nil ?_
      | refine s_move (by exact rfl) (by exact rfl) ?_
      | refine s_assign (by exact rfl) (by exact rfl) ?_
      | refine s_gtr (by exact rfl) (by exact rfl) (by exact rfl) ?_
      | refine s_add (by exact rfl) (by exact rfl) (by exact rfl) (by omega) ?_
      | refine s_len (by exact rfl) (by exact rfl) (by assumption) ?_
      | refine c_skip ?_
      | refine k_blk ?_
      | (refine c_cond_p (by exact rfl) (fun h => ?_) (fun h => ?_) <;> try (exfalso; omega))
    · rename_i hgt
      rw [if_pos (by omega)] at hnx
      refine o_mk [.int .i64 (k : Int)] (by exact rfl) (by exact rfl) rfl ?_ ?_ (by simp) fun vj hvj => ?_
      · simp [Value.cells]
      · simp
      skip
      refine o_append_row (i := 5) (by exact rfl) (by exact rfl) (by exact rfl) (by exact rfl) (by exact .head _) (by exact rfl) (by simp [Value.cells, Value.oneCell']) (by omega) fun vy hvy => ?_
      repeat' first
        | refine k_then ?_
        | refine c_region ?_
        | refine s_nil ?_
        | refine s_move (by exact rfl) (by exact rfl) ?_
        | refine s_assign (by exact rfl) (by exact rfl) ?_
        | refine s_add (by exact rfl) (by exact rfl) (by exact rfl) (by omega) ?_
        | refine k_blk ?_
      refine c_round (k + 1, out ++ [k], vy) [5, 5] ?_ ⟨rfl, rfl, rfl, rfl, trivial⟩ ⟨by dsimp only; omega, by dsimp only; exact hnx.symm⟩ (by dsimp only; omega)
      dsimp only
      rw [show nV (out ++ [k]) = nV out ++ [.int .i64 (k : Int)] by simp [nV], List.length_append]
      rfl
    · rename_i hgt
      rw [if_neg (by omega), List.append_nil] at hnx
      refine c_round (k + 1, out, vx) [4, 4] (by exact rfl) ⟨rfl, rfl, rfl, rfl, trivial⟩ ⟨by dsimp only; omega, by dsimp only; exact hnx.symm⟩ (by dsimp only; omega)
  · repeat' first
      | refine k_then ?_
      | refine c_seq ?_
      | refine c_region ?_
      | refine s_nil ?_
      | refine s_move (by exact rfl) (by exact rfl) ?_
      | refine s_assign (by exact rfl) (by exact rfl) ?_
      | refine s_fa (by exact rfl) (by exact rfl) ?_
      | refine s_ld_box (by exact rfl) (by exact rfl) (by exact .tail _ (.head _)) (by exact rfl) ?_
      | refine s_lss (by exact rfl) (by exact rfl) (by exact rfl) ?_
      | refine s_len (by exact rfl) (by exact rfl) (by assumption) ?_
      | refine c_exit ?_
      | refine c_ret ?_
      | refine k_then_exit ?_
      | refine k_blk_eq ?_
      | (refine c_cond_p (by exact rfl) (fun h => ?_) (fun h => ?_) <;> try (exfalso; omega))
    obtain rfl : k = es.length := by omega
    refine ret1 [0] rfl rfl (by exact rfl) ⟨out, hout, rfl⟩
end Go.Proofs.Ytkekpgkacjpjnaa
end
