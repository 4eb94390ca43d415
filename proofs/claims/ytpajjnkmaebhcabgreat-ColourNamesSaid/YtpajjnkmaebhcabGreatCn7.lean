/- Of ColourNames: part 7: what the walks rest on, contracts of functions and plain lemmas; no condition but those that each states. -/
import Derived.Test.YtpajjnkmaebhcabGreatCn6
import Derived.ProofKit
import Derived.Deep.Slices
import Derived.Deep.Strs
import Derived.Lib.SmallJoins
import Derived.ChangeSlices
import Derived.SizedLaws
set_option linter.unusedVariables false
set_option linter.unusedSimpArgs false
section
set_option linter.unusedVariables false
namespace Go.Sl
open Go Go.RowKit Fil
/-- a mirror's rows, of numbers -/
theorem rowI_nat2 {ho : List Value} {R : List (List Nat)} : kids rowI ho ((intL R).map List.reverse) = kids rowN ho (R.map List.reverse) := by
  unfold kids
  apply List.ext_getElem?
  intro i
  rw [List.getElem?_zipWith, List.getElem?_zipWith, intL, List.map_map, List.getElem?_map, List.getElem?_map]
  cases ho[i]? with
  | none => rfl
  | some h =>
    cases R[i]? with
    | none => rfl
    | some l => simp [rowI, rowN, nV_iV]
end Go.Sl
namespace Fil
theorem plane_mirror2 {n : Int} {es : List E} {R : List (List Nat)} {o lab : Nat → Nat} (hR : RightG n es) (h : RotL n.toNat (tn es) R) (hL : Lev n.toNat (nb (tn es)) o lab) : eulerL n.toNat (tn es) lab (facesR n.toNat (tn es) R) = eulerL n.toNat (tn es) lab (facesR n.toNat (tn es) (R.map List.reverse)) := by
  rw [eulerL, eulerL]
  apply List.map_congr_left
  intro c hc
  exact euler_mirror hR h h.rev (rf_mirror R) hL (facesR_dec hR h) (facesR_dec hR h.rev) hc
/-- the name of a vertex -/
def pn (l : List Int) (v : Nat) : Nat := (l.getD v 0).toNat
variable {N : Nat} {l : List Int}
theorem OrdI.pn_eq (h : OrdI N l) {v : Nat} (hv : v < N) : l.getD v 0 = ((pn l v : Nat) : Int) ∧ pn l v < N := by
  have := h.lt (l.getD v 0) (by rw [getDI_in (by rw [h.len]; exact hv)]; exact List.getElem_mem _)
  unfold pn
  omega
theorem OrdI.pn_inj (h : OrdI N l) {u v : Nat} (hu : u < N) (hv : v < N) (e : pn l u = pn l v) : u = v := by
  have h1 := (h.pn_eq hu).1
  have h2 := (h.pn_eq hv).1
  rw [e, ← h2, getDI_in (by rw [h.len]; exact hu), getDI_in (by rw [h.len]; exact hv)] at h1
  have := congrArg l.idxOf h1
  rwa [h.nd.idxOf_getElem, h.nd.idxOf_getElem] at this
theorem OrdI.pn_surj (h : OrdI N l) {v : Nat} (hv : v < N) : ∃ u, u < N ∧ pn l u = v := by
  obtain ⟨i, hi, e⟩ := List.getElem_of_mem (h.mem hv)
  have hi' : i < N := by rw [← h.len]; exact hi
  refine ⟨i, hi', ?_⟩
  have := (h.pn_eq hi').1
  rw [getDI_in hi, e] at this
  omega
/-- the lists of the vertices before k, and the first j of k's, under other names -/
structure RenL (N : Nat) (R : List (List Nat)) (p : Nat → Nat) (k j : Nat) (A : List (List Nat)) : Prop where
  len : A.length = N
  at_ : ∀ v, v < N → rf A (p v) = if v < k then (rf R v).map p else if v = k then ((rf R v).take j).map p else []
theorem RenL.start (N : Nat) (R : List (List Nat)) (p : Nat → Nat) : RenL N R p 0 0 (List.replicate N []) := ⟨by simp, fun v hv => by
  have : rf (List.replicate N ([] : List Nat)) (p v) = [] := by
    rw [rf, List.getD_eq_getElem?_getD, List.getElem?_replicate]; split <;> rfl
  rw [this, if_neg (by omega)]
  split <;> simp⟩
theorem RenL.next {R : List (List Nat)} {p : Nat → Nat} {k : Nat} {A : List (List Nat)} (h : RenL N R p k (rf R k).length A) : RenL N R p (k + 1) 0 A := ⟨h.len, fun v hv => by
  rw [h.at_ v hv]
  by_cases e : v < k
  · rw [if_pos e, if_pos (by omega)]
  · rw [if_neg e]
    by_cases e2 : v = k
    · subst e2
      rw [if_pos rfl, if_pos (by omega), List.take_length]
    · rw [if_neg e2, if_neg (by omega)]
      split <;> simp⟩
theorem RenL.step {R : List (List Nat)} {p : Nat → Nat} {k j u : Nat} {A : List (List Nat)} (h : RenL N R p k j A) (hk : k < N) (hp : p k < N) (hi : ∀ v, v < N → p v = p k → v = k) (hu : (rf R k)[j]? = some u) : RenL N R p k (j + 1) (A.set (p k) (rf A (p k) ++ [p u])) ∧ A[p k]? = some (((rf R k).take j).map p) ∧ rf A (p k) = ((rf R k).take j).map p := by
  have e0 : rf A (p k) = ((rf R k).take j).map p := by rw [h.at_ k hk, if_neg (by omega), if_pos rfl]
  have hl := h.len
  refine ⟨⟨by rw [List.length_set]; exact hl, fun v hv => ?_⟩, ?_, e0⟩
  · by_cases e : v = k
    · subst e
      rw [if_neg (by omega), if_pos rfl, rf, List.getD_eq_getElem?_getD, List.getElem?_set, if_pos rfl, if_pos (by omega), Option.getD_some, e0, List.take_add_one, hu]
      simp
    · have hne : p k ≠ p v := fun e2 => e (hi v hv e2.symm)
      rw [rf, List.getD_eq_getElem?_getD, List.getElem?_set_ne hne, ← List.getD_eq_getElem?_getD]
      have := h.at_ v hv
      rw [if_neg e] at this ⊢
      exact this
  · rw [← e0, rf, List.getD_eq_getElem?_getD, List.getElem?_eq_getElem (by omega)]; rfl
end Fil
namespace Go.Proofs.YtpajjnkmaebhcabGreat
open Go Go.RowKit Go.Sl Fil
set_option maxRecDepth 100000
set_option maxHeartbeats 8000000
set_option linter.unusedVariables false
set_option linter.unusedSimpArgs false
attribute [local irreducible] Code.wp wpList bodyPost wpQuiet Exit.then Exit.inBlock Post wpAnyH wpOp
theorem ColourNames_ok (n : Int) (v : Value) (es : List E) (vr : Value) (hr0 : List Value) (ls : List (List Int)) (va : Value) (a : List Int) (vb : Value) (c : List Int) (w : World) (hs : Shp v es.length) (hr : RO w No v (esV es)) (hR : ROsI w No vr hr0 ls) (hlen : ∀ l ∈ ls, l.length ≤ 17592186044416) (hs2 : Shp va a.length) (hr2 : RO w No va (iV a)) (hs3 : Shp vb c.length) (hr3 : RO w No vb (iV c)) :
    Calls Tryz.prog 4 #[.agg #[.int .i64 n, v], vr, va, vb] w (Post w No (Just (.bool true))) := by
  have hlm := hs2.1
  have hlm3 := hs3.1
  simp only [maxLen] at hlm hlm3
  refine enter0 (vs := [_, _, _, _]) Tryz.func4 rfl Tryz.ntmps4 rfl ?_
  repeat' first
    | refine k_then ?_ | refine c_seq ?_ | refine c_region ?_ | refine s_nil ?_ | refine s_move (by exact rfl) (by exact rfl) ?_ | refine s_assign (by exact rfl) (by exact rfl) ?_ | refine s_ldk_box (by exact rfl) (by exact rfl) (by exact .head _) (by exact rfl) (by exact rfl) ?_ | refine o_box (by exact rfl) (by exact rfl) (fun b => ?_) | fail
  refine s_call (by exact rfl) (by exact rfl) (fun w h => Light7_ok n v es.length vr hr0 ls 40 w hs (rosI_old h hR) hlen (by omega)) ?_
  cases hl : light7 n es.length ls 40
  · repeat' first
      | refine k_then ?_ | refine c_seq ?_ | refine c_region ?_ | refine s_nil ?_ | refine s_move (by exact rfl) (by exact rfl) ?_ | refine s_not (by exact rfl) (by exact rfl) ?_ | refine s_pick_t (by exact rfl) (by exact rfl) (by exact rfl) ?_ | refine c_cond_t (by exact rfl) ?_ | refine g_skip (by exact rfl) (by exact rfl) (by exact rfl) (by exact rfl) ?_ | fail
    refine s_call (vs := []) (by exact rfl) (by exact rfl) (fun w h => alive11_ok w) ?_
    repeat' first
      | refine k_then ?_ | refine s_nil ?_ | refine s_assign (by exact rfl) (by exact rfl) ?_ | refine c_ret ?_ | refine k_then_ret ?_ | fail
    refine ret1 [] rfl rfl (by exact rfl) ⟨rfl, rfl⟩
  obtain ⟨l1, l2, l3, l4⟩ := light7_t hl
  have hle : ∀ l ∈ ls, l.length ≤ 1048576 := fun l hl => by have := l4 l hl; omega
  by_cases hll : (a.length : Int) > 100
  · repeat' first
      | refine k_then ?_ | refine c_seq ?_ | refine c_region ?_ | refine s_nil ?_ | refine s_move (by exact rfl) (by exact rfl) ?_ | refine s_not (by exact rfl) (by exact rfl) ?_ | refine s_pick_t (by exact rfl) (by exact rfl) (by exact rfl) ?_ | refine s_pick_f (by exact rfl) (by exact rfl) (by exact rfl) ?_ | refine c_cond_t (by exact rfl) ?_ | (refine g_case (by exact rfl) (by exact rfl) (fun h => ?_) (fun h => ?_) <;> try (exfalso; omega)) | refine g_skip (by exact rfl) (by exact rfl) (by exact rfl) (by exact rfl) ?_ | refine w_move (by exact rfl) (by exact rfl) (by exact rfl) (by exact rfl) ?_ | refine w_gtr (by exact rfl) (by exact rfl) (by exact rfl) (by exact rfl) (by exact rfl) ?_ | refine w_len (by exact rfl) (by exact rfl) (by exact rfl) (by exact rfl) (by assumption) ?_ | fail
    refine s_call (vs := []) (by exact rfl) (by exact rfl) (fun w h => alive11_ok w) ?_
    repeat' first
      | refine k_then ?_ | refine s_nil ?_ | refine s_assign (by exact rfl) (by exact rfl) ?_ | refine c_ret ?_ | refine k_then_ret ?_ | fail
    refine ret1 [] rfl rfl (by exact rfl) ⟨rfl, rfl⟩
  by_cases hk : rotK n es ls = 0
  case neg =>
    repeat' first
      | refine s_move (by exact rfl) (by exact rfl) ?_ | refine s_not (by exact rfl) (by exact rfl) ?_ | refine s_pick_f (by exact rfl) (by exact rfl) (by exact rfl) ?_ | (refine g_case (by exact rfl) (by exact rfl) (fun h => ?_) (fun h => ?_) <;> try (exfalso; omega)) | refine w_move (by exact rfl) (by exact rfl) (by exact rfl) (by exact rfl) ?_ | refine w_gtr (by exact rfl) (by exact rfl) (by exact rfl) (by exact rfl) (by exact rfl) ?_ | refine w_len (by exact rfl) (by exact rfl) (by exact rfl) (by exact rfl) (by assumption) ?_ | refine w_ldk_box (by exact rfl) (by exact rfl) (by exact rfl) (by exact rfl) (by exact .head _) (by exact rfl) (by exact rfl) ?_ | refine g_on (by exact rfl) (by exact rfl) ?_ | fail
    refine s_call (by exact rfl) (by exact rfl) (fun w h => refPlane_no n v es vr hr0 ls w hs (ro_old h hr) (by omega) (rosI_old h hR) hk) ?_
    repeat' first
      | refine k_then ?_ | refine c_seq ?_ | refine c_region ?_ | refine s_nil ?_ | refine s_pick_f (by exact rfl) (by exact rfl) (by exact rfl) ?_ | (refine c_cond_p (by exact rfl) (fun h => ?_) (fun h => ?_) <;> try (exfalso; omega)) | refine w_neq (by exact rfl) (by exact rfl) (by exact rfl) (by exact rfl) (by exact rfl) ?_ | fail
    refine s_call (vs := []) (by exact rfl) (by exact rfl) (fun w h => alive11_ok w) ?_
    repeat' first
      | refine k_then ?_ | refine s_nil ?_ | refine s_assign (by exact rfl) (by exact rfl) ?_ | refine c_ret ?_ | refine k_then_ret ?_ | fail
    refine ret1 [] rfl rfl (by exact rfl) ⟨rfl, rfl⟩
  obtain ⟨hG, R, rfl, hRot⟩ := rot_sys hk
  have hRs := hR.nat
  obtain ⟨o, lab, hL⟩ := lev_ex w hG
  repeat' first
    | refine s_move (by exact rfl) (by exact rfl) ?_ | refine s_not (by exact rfl) (by exact rfl) ?_ | refine s_pick_f (by exact rfl) (by exact rfl) (by exact rfl) ?_ | (refine g_case (by exact rfl) (by exact rfl) (fun h => ?_) (fun h => ?_) <;> try (exfalso; omega)) | refine w_move (by exact rfl) (by exact rfl) (by exact rfl) (by exact rfl) ?_ | refine w_gtr (by exact rfl) (by exact rfl) (by exact rfl) (by exact rfl) (by exact rfl) ?_ | refine w_len (by exact rfl) (by exact rfl) (by exact rfl) (by exact rfl) (by assumption) ?_ | refine w_ldk_box (by exact rfl) (by exact rfl) (by exact rfl) (by exact rfl) (by exact .head _) (by exact rfl) (by exact rfl) ?_ | refine g_on (by exact rfl) (by exact rfl) ?_ | fail
  revert b; intro b3
  refine s_call (by exact rfl) (by exact rfl) (fun w h => refPlane_ok n v es vr hr0 R o lab w hs (ro_old h hr) hG (ros_old h hRs) hRot hL) ?_
  by_cases hp : planeR n.toNat (tn es) lab R = 0
  case neg =>
    repeat' first
      | refine k_then ?_ | refine c_seq ?_ | refine c_region ?_ | refine s_nil ?_ | refine s_pick_f (by exact rfl) (by exact rfl) (by exact rfl) ?_ | (refine c_cond_p (by exact rfl) (fun h => ?_) (fun h => ?_) <;> try (exfalso; omega)) | refine w_neq (by exact rfl) (by exact rfl) (by exact rfl) (by exact rfl) (by exact rfl) ?_ | fail
    refine s_call (vs := []) (by exact rfl) (by exact rfl) (fun w h => alive11_ok w) ?_
    repeat' first
      | refine k_then ?_ | refine s_nil ?_ | refine s_assign (by exact rfl) (by exact rfl) ?_ | refine c_ret ?_ | refine k_then_ret ?_ | fail
    refine ret1 [] rfl rfl (by exact rfl) ⟨rfl, rfl⟩
  rw [hp]
  have hlo := hG.lo
  obtain ⟨N, rfl⟩ : ∃ N : Nat, n = (N : Int) := ⟨n.toNat, by omega⟩
  have hvc : (Value.agg #[.int .i64 (N : Int), v]).cells.toList = [.int .i64 (N : Int), v] := by simp [Value.cells, one_cells hs.one]
  rw [hvc]
  repeat' first
    | refine k_then ?_ | refine c_seq ?_ | refine c_region ?_ | refine s_nil ?_ | refine s_fa (by exact rfl) (by exact rfl) ?_ | refine s_ld_box (by exact rfl) (by exact rfl) (by exact .head _) (by exact rfl) ?_ | refine s_pick_f (by exact rfl) (by exact rfl) (by exact rfl) ?_ | refine c_skip ?_ | (refine c_cond_p (by exact rfl) (fun h => ?_) (fun h => ?_) <;> try (exfalso; omega)) | refine w_neq (by exact rfl) (by exact rfl) (by exact rfl) (by exact rfl) (by exact rfl) ?_ | fail
  refine o_call (vs := [.int .i64 (N : Int)]) (by exact rfl) (by exact rfl) (fun w h => Upto_ok N w (by omega)) ?_
  rintro vo _ rfl
  refine know_row (v := vo) (.head _) fun hvo _ => ?_
  generalize hblk : Code.block 0 _ = cb
  repeat' first
    | refine k_then ?_ | refine c_seq ?_ | refine c_region ?_ | refine s_nil ?_ | refine s_assign (by exact rfl) (by exact rfl) ?_ | fail
  subst hblk
  refine c_cut (fun l : List Int => OrdI N l) (fun _ => [(1, vr), (4, .pointer (some ⟨b3, 0, none⟩)), (8, .bool false), (9, vo)]) (fun l => [rowHP vo 3 1 N (iV l), boxHP b3 24 [.int .i64 (N : Int), v]]) ?_ fun l hO => ?_
  · repeat' first
      | refine c_block ?_ | fail
    refine c_loop (fun x : Nat × List Int => x.1 ≤ a.length ∧ OrdI N x.2) (fun x => [(1, vr), (2, va), (3, vb), (4, .pointer (some ⟨b3, 0, none⟩)), (8, .bool false), (9, vo), (10, .int .i64 (x.1 : Int))]) (fun x => [rowHP vo 3 1 N (iV x.2), boxHP b3 24 [.int .i64 (N : Int), v]]) (fun x => a.length - x.1) (0, (List.range N).map fun k : Nat => (k : Int)) [0, 0] ⟨Nat.zero_le _, OrdI.upto N⟩ (by exact rfl) ⟨rfl, rfl, rfl, rfl, rfl, rfl, rfl, trivial⟩ ?_
    rintro ⟨k, l⟩ ⟨hk, hO⟩
    dsimp only at hk hO ⊢
    by_cases hgo : k < a.length ∧ k < c.length ∧ 0 < N
    · obtain ⟨g1, g2, g3⟩ := hgo
      have ga := iV_get (l := a) (k := k) g1
      have gb := iV_get (l := c) (k := k) g2
      generalize a.getD k 0 = x at *
      generalize c.getD k 0 = y at *
      have hx1 := Int.tmod_lt_of_pos x (b := (N : Int)) (by omega)
      have hy1 := Int.tmod_lt_of_pos y (b := (N : Int)) (by omega)
      repeat' first
        | refine k_then ?_ | refine c_seq ?_ | refine c_region ?_ | refine s_nil ?_ | refine s_move (by exact rfl) (by exact rfl) ?_ | refine s_lss (by exact rfl) (by exact rfl) (by exact rfl) ?_ | refine s_len (by exact rfl) (by exact rfl) (by assumption) ?_ | refine s_pick_t (by exact rfl) (by exact rfl) (by exact rfl) ?_ | refine c_block ?_ | refine c_skip ?_ | (refine c_cond_p (by exact rfl) (fun h => ?_) (fun h => ?_) <;> try (exfalso; omega)) | (refine g_case (by exact rfl) (by exact rfl) (fun h => ?_) (fun h => ?_) <;> try (exfalso; omega)) | refine w_move (by exact rfl) (by exact rfl) (by exact rfl) (by exact rfl) ?_ | refine w_fa (by exact rfl) (by exact rfl) (by exact rfl) (by exact rfl) ?_ | refine w_ld_box (by exact rfl) (by exact rfl) (by exact rfl) (by exact rfl) (by exact .tail _ (.head _)) (by exact rfl) ?_ | refine w_lss (by exact rfl) (by exact rfl) (by exact rfl) (by exact rfl) (by exact rfl) ?_ | refine w_gtr (by exact rfl) (by exact rfl) (by exact rfl) (by exact rfl) (by exact rfl) ?_ | refine w_len (by exact rfl) (by exact rfl) (by exact rfl) (by exact rfl) (by assumption) ?_ | fail
      refine p_begin0 [(0, true), (1, true), (2, true), (3, true), (4, true), (5, true), (6, true), (7, true), (8, true), (9, true), (10, true), (11, true), (12, true), (13, true), (14, true), (15, true)] (by kernel_rfl) ?_
      repeat' first
        | (refine p_at (by exact rfl) ?_
           first
            | refine t_move (by exact rfl) (by exact rfl) (by exact fun _ h => h) ?_ | refine t_fa (by exact rfl) (by exact rfl) (by exact fun _ h => h) ?_ | refine t_ld_box (by exact rfl) (by exact rfl) (by exact .tail _ (.head _)) (by exact rfl) (by exact fun _ h => h) ?_ | refine t_idx (by exact rfl) (by exact rfl) (by exact rfl) (by assumption) (by first | assumption | omega) (by exact fun _ h => h) ?_ | refine t_ld_ro (by exact rfl) (by exact rfl) (by assumption) (by assumption) (by exact fun _ h => h) ?_ | fail)
        | fail
      refine p_at (by exact rfl) ?_
      refine t_remz (by exact rfl) (by exact rfl) (by exact rfl) (by omega) (by exact fun _ h => h) ?_
      repeat' first
        | (refine p_at (by exact rfl) ?_
           first
            | refine t_move (by exact rfl) (by exact rfl) (by exact fun _ h => h) ?_ | refine t_fa (by exact rfl) (by exact rfl) (by exact fun _ h => h) ?_ | refine t_ld_box (by exact rfl) (by exact rfl) (by exact .tail _ (.head _)) (by exact rfl) (by exact fun _ h => h) ?_ | refine t_idx (by exact rfl) (by exact rfl) (by exact rfl) (by assumption) (by first | assumption | omega) (by exact fun _ h => h) ?_ | refine t_ld_ro (by exact rfl) (by exact rfl) (by assumption) (by assumption) (by exact fun _ h => h) ?_ | fail)
        | fail
      refine p_at (by exact rfl) ?_
      refine t_remz (by exact rfl) (by exact rfl) (by exact rfl) (by omega) (by exact fun _ h => h) ?_
      repeat' first
        | refine p_nil ?_
        | (refine p_at (by exact rfl) ?_
           first
            | refine t_assign (by exact rfl) (by exact rfl) (by exact fun _ h => h) ?_ | fail)
        | fail
      generalize x.tmod (N : Int) = p at *
      generalize y.tmod (N : Int) = q at *
      by_cases hpq : 0 ≤ p ∧ 0 ≤ q
      · obtain ⟨hp0, hq0⟩ := hpq
        obtain ⟨p, rfl⟩ : ∃ i : Nat, p = (i : Int) := ⟨p.toNat, by omega⟩
        obtain ⟨q, rfl⟩ : ∃ i : Nat, q = (i : Int) := ⟨q.toNat, by omega⟩
        have hol := hO.len
        have gp := iV_get (l := l) (k := p) (by omega)
        have gq := iV_get (l := l) (k := q) (by omega)
        have hsw : ((iV l).set (p * 1) (.int .i64 (l.getD q 0))).set (q * 1) (.int .i64 (l.getD p 0)) = iV (swapI l p q) := by rw [Nat.mul_one, Nat.mul_one, swapI, iV, iV, List.map_set, List.map_set]
        repeat' first
          | refine k_then ?_ | refine c_seq ?_ | refine c_region ?_ | refine s_nil ?_ | refine s_move (by exact rfl) (by exact rfl) ?_ | refine s_geq (by exact rfl) (by exact rfl) (by exact rfl) ?_ | refine s_pick_t (by exact rfl) (by exact rfl) (by exact rfl) ?_ | (refine c_cond_p (by exact rfl) (fun h => ?_) (fun h => ?_) <;> try (exfalso; omega)) | (refine g_case (by exact rfl) (by exact rfl) (fun h => ?_) (fun h => ?_) <;> try (exfalso; omega)) | refine w_move (by exact rfl) (by exact rfl) (by exact rfl) (by exact rfl) ?_ | refine w_geq (by exact rfl) (by exact rfl) (by exact rfl) (by exact rfl) (by exact rfl) ?_ | fail
        refine p_begin [(0, true), (1, true), (2, true), (3, true), (4, true), (5, true), (6, true), (8, true), (9, true), (10, true), .rd 7 11, (12, true), (13, false), (14, true), (15, false)] [boxHP b3 24 [.int .i64 (N : Int), v]] (by kernel_rfl) ?_
        repeat' first
          | (refine p_at (by exact rfl) ?_
             first
              | refine t_move (by exact rfl) (by exact rfl) (by exact fun _ h => h.tl) ?_ | refine t_idx (by exact rfl) (by exact rfl) (by exact rfl) (by assumption) (by first | assumption | omega) (by exact fun _ h => h.tl) ?_ | fail)
          | fail
        refine p_rd ?_ ?_
        all_goals
          repeat' first
            | (refine p_at (by exact rfl) ?_
               first
                | refine t_idx (by exact rfl) (by exact rfl) (by exact rfl) (by assumption) (by first | assumption | omega) (by exact fun _ h => h.tl) ?_ | refine r_ld_row (by exact rfl) (by exact rfl) (by exact .head _) (by assumption) (by exact fun _ h => h.tl) ?_ | fail)
            | fail
          refine p_st_row (j := 0) (by exact rfl) (by exact rfl) (by exact rfl) (by exact rfl) rfl (by omega) (fun w h => h.pick [1] (by exact rfl)) ?_
          repeat' first
            | (refine p_at (by exact rfl) ?_
               first
                | refine t_idx (by exact rfl) (by exact rfl) (by exact rfl) (by assumption) (by first | assumption | omega) (by exact fun _ h => h.tl) ?_ | fail)
            | fail
          refine p_st_row (j := 0) (by exact rfl) (by exact rfl) (by exact rfl) (by exact rfl) rfl (by omega) (fun w h => h.pick [1] (by exact rfl)) ?_
          repeat' first
            | refine p_nil ?_ | fail
          repeat' first
            | refine k_then ?_ | refine c_region ?_ | refine s_nil ?_ | refine s_move (by exact rfl) (by exact rfl) ?_ | refine s_assign (by exact rfl) (by exact rfl) ?_ | refine s_add (by exact rfl) (by exact rfl) (by exact rfl) (by omega) ?_ | refine k_blk ?_ | fail
          refine c_round (k + 1, swapI l p q) [0, 0] (by rw [← hsw]; exact rfl) ⟨rfl, rfl, rfl, rfl, rfl, rfl, rfl, trivial⟩ ⟨by dsimp only; omega, hO.swap (by omega) (by omega)⟩ (by dsimp only; omega)
      · repeat' first
          | refine k_then ?_ | refine c_seq ?_ | refine c_region ?_ | refine s_nil ?_ | refine s_move (by exact rfl) (by exact rfl) ?_ | refine s_assign (by exact rfl) (by exact rfl) ?_ | refine s_geq (by exact rfl) (by exact rfl) (by exact rfl) ?_ | refine s_add (by exact rfl) (by exact rfl) (by exact rfl) (by omega) ?_ | refine s_pick_t (by exact rfl) (by exact rfl) (by exact rfl) ?_ | refine s_pick_f (by exact rfl) (by exact rfl) (by exact rfl) ?_ | refine c_skip ?_ | refine k_blk ?_ | (refine c_cond_p (by exact rfl) (fun h => ?_) (fun h => ?_) <;> try (exfalso; omega)) | refine c_cond_f (by exact rfl) ?_ | (refine g_case (by exact rfl) (by exact rfl) (fun h => ?_) (fun h => ?_) <;> try (exfalso; omega)) | refine g_skip (by exact rfl) (by exact rfl) (by exact rfl) (by exact rfl) ?_ | refine w_move (by exact rfl) (by exact rfl) (by exact rfl) (by exact rfl) ?_ | refine w_geq (by exact rfl) (by exact rfl) (by exact rfl) (by exact rfl) (by exact rfl) ?_ | fail
        all_goals refine c_round (k + 1, l) [0, 0] (by exact rfl) ⟨rfl, rfl, rfl, rfl, rfl, rfl, rfl, trivial⟩ ⟨by dsimp only; omega, hO⟩ (by dsimp only; omega)
    · repeat' first
        | refine k_then ?_ | refine c_seq ?_ | refine c_region ?_ | refine s_nil ?_ | refine s_move (by exact rfl) (by exact rfl) ?_ | refine s_lss (by exact rfl) (by exact rfl) (by exact rfl) ?_ | refine s_len (by exact rfl) (by exact rfl) (by assumption) ?_ | refine s_pick_t (by exact rfl) (by exact rfl) (by exact rfl) ?_ | refine s_pick_f (by exact rfl) (by exact rfl) (by exact rfl) ?_ | refine c_exit ?_ | refine k_then_exit ?_ | refine k_blk_eq ?_ | (refine c_cond_p (by exact rfl) (fun h => ?_) (fun h => ?_) <;> try (exfalso; omega)) | refine c_cond_f (by exact rfl) ?_ | (refine g_case (by exact rfl) (by exact rfl) (fun h => ?_) (fun h => ?_) <;> try (exfalso; omega)) | refine g_skip (by exact rfl) (by exact rfl) (by exact rfl) (by exact rfl) ?_ | refine w_move (by exact rfl) (by exact rfl) (by exact rfl) (by exact rfl) ?_ | refine w_fa (by exact rfl) (by exact rfl) (by exact rfl) (by exact rfl) ?_ | refine w_ld_box (by exact rfl) (by exact rfl) (by exact rfl) (by exact rfl) (by exact .tail _ (.head _)) (by exact rfl) ?_ | refine w_lss (by exact rfl) (by exact rfl) (by exact rfl) (by exact rfl) (by exact rfl) ?_ | refine w_gtr (by exact rfl) (by exact rfl) (by exact rfl) (by exact rfl) (by exact rfl) ?_ | refine w_len (by exact rfl) (by exact rfl) (by exact rfl) (by exact rfl) (by assumption) ?_ | fail
      all_goals refine cut_end l [0, 0] (by exact rfl) ⟨rfl, rfl, rfl, rfl, trivial⟩ hO
  have hol := hO.len
  have hpe := fun u (hu : u < N) => hO.pn_eq hu
  have hel : es.length ≤ 160 := by omega
  repeat' first
    | refine k_then ?_ | refine c_seq ?_ | refine c_region ?_ | refine s_nil ?_ | refine s_assign (by exact rfl) (by exact rfl) ?_ | refine c_block ?_ | fail
  refine c_nil 37 3 ?_
  refine c_loop (fun x : Nat × Value => x.1 ≤ es.length) (fun x => [(1, vr), (4, .pointer (some ⟨b3, 0, none⟩)), (8, .bool false), (9, vo), (13, x.2), (14, .int .i64 (x.1 : Int))])
    (fun x => [rowHP x.2 37 3 x.1 (esV ((es.take x.1).map (renE (pn l)))), rowHP vo 3 1 N (iV l), boxHP b3 24 [.int .i64 (N : Int), v]]) (fun x => es.length - x.1) (0, .slice none 0 0) [0, 0, 0] (Nat.zero_le _) (by exact rfl) ⟨rfl, rfl, rfl, rfl, rfl, rfl, trivial⟩ ?_
  rintro ⟨k, ve⟩ hk
  dsimp only at hk ⊢
  refine know_row (v := ve) (.head _) fun hve _ => ?_
  by_cases hkl : k < es.length
  · obtain ⟨e, he⟩ : ∃ e, es[k]? = some e := ⟨_, List.getElem?_eq_getElem hkl⟩
    obtain ⟨hE0, hE1, hE2⟩ := esV_get he
    obtain ⟨q1, q2, q3, -, -⟩ := hG.ok e (List.mem_of_getElem? he)
    obtain ⟨p1, p2⟩ := hpe e.1.toNat (by omega)
    obtain ⟨p3, p4⟩ := hpe e.2.1.toNat (by omega)
    have gu := iV_get (l := l) (k := e.1.toNat) (by omega)
    have gv := iV_get (l := l) (k := e.2.1.toNat) (by omega)
    rw [p1] at gu
    rw [p3] at gv
    have htk : (es.take (k + 1)).map (renE (pn l)) = (es.take k).map (renE (pn l)) ++ [renE (pn l) e] := by rw [List.take_add_one, he]; simp
    repeat' first
      | refine k_then ?_ | refine c_seq ?_ | refine c_region ?_ | refine s_nil ?_ | refine s_move (by exact rfl) (by exact rfl) ?_ | refine s_fa (by exact rfl) (by exact rfl) ?_ | refine s_ld_box (by exact rfl) (by exact rfl) (by exact .tail _ (.tail _ (.head _))) (by exact rfl) ?_ | refine s_lss (by exact rfl) (by exact rfl) (by exact rfl) ?_ | refine s_len (by exact rfl) (by exact rfl) (by assumption) ?_ | refine c_block ?_ | refine c_skip ?_ | (refine c_cond_p (by exact rfl) (fun h => ?_) (fun h => ?_) <;> try (exfalso; omega)) | fail
    refine p_begin [(0, true), (1, true), (2, true), (3, true), (4, true), (5, true), (6, true), (7, true), (8, true), (9, true), (10, true), (11, true), (12, true), (13, true), (14, true), (15, true), (16, true), (17, true), (18, true), (19, true), (20, true), (21, true), (22, true), (23, true), (24, true), (25, true), (26, false), (27, false), (28, true)] [rowHP vo 3 1 N (iV l), boxHP b3 24 [.int .i64 (N : Int), v]] (by kernel_rfl) ?_
    repeat' first
      | (refine p_at (by exact rfl) ?_
         first
          | refine t_move (by exact rfl) (by exact rfl) (by exact fun _ h => h.tl) ?_ | refine t_fa (by exact rfl) (by exact rfl) (by exact fun _ h => h.tl) ?_ | refine t_ld_box (by exact rfl) (by exact rfl) (by exact .tail _ (.head _)) (by exact rfl) (by exact fun _ h => h.tl) ?_ | refine t_idx (by exact rfl) (by exact rfl) (by exact rfl) (by assumption) (by first | assumption | omega) (by exact fun _ h => h.tl) ?_ | refine t_idxi (by exact rfl) (by exact rfl) (by exact rfl) (by assumption) (by first | assumption | omega) (by exact fun _ h => h.tl) ?_ | refine t_fap (by exact rfl) (by exact rfl) (by assumption) (by omega) (by exact fun _ h => h.tl) ?_ | refine t_ld_ro (by exact rfl) (by exact rfl) (by assumption) (by assumption) (by exact fun _ h => h.tl) ?_ | refine t_ld_row (by exact rfl) (by exact rfl) (by exact .head _) (by assumption) (by exact fun _ h => h.tl) ?_ | fail)
      | fail
    refine p_buildt (cs := eV (renE (pn l) e)) [(0, .int .i64 (pn l e.1.toNat : Int), [.int .i64 (pn l e.1.toNat : Int)]), (1, .int .i64 (pn l e.2.1.toNat : Int), [.int .i64 (pn l e.2.1.toNat : Int)]), (2, .int .i64 e.2.2, [.int .i64 e.2.2])] (by exact rfl) (by exact rfl) (by exact rfl) (by simp [Value.cells]) ?_ (by exact fun _ h => h.tl) ?_
    · exact rfl
    refine p_mk (sz := 3) [.agg (eV (renE (pn l) e)).toArray] (by exact rfl) (by exact rfl) (by exact rfl) rfl (by simp [Value.cells, eV]) (by simp) (by simp) (fun _ _ h => h.tl.tl) fun v2 hv2 => ?_
    refine p_append_row (bytes := 24) (c := 1) (j := 1) (by exact rfl) (by exact rfl) (by exact rfl) (by exact rfl) (by exact rfl) (.head _) (by simp [Value.cells, eV]) (by simp [Value.cells, eV, Value.oneCell']) (by omega) (fun _ _ h => h.tl.tl) (fun v3 hv3 => ?_)
    repeat' first
      | refine p_nil ?_
      | (refine p_at (by exact rfl) ?_
         first
          | refine t_assign (by exact rfl) (by exact rfl) (by exact fun _ h => h.tl.tl) ?_ | fail)
      | fail
    repeat' first
      | refine k_then ?_ | refine c_region ?_ | refine s_nil ?_ | refine s_move (by exact rfl) (by exact rfl) ?_ | refine s_assign (by exact rfl) (by exact rfl) ?_ | refine s_add (by exact rfl) (by exact rfl) (by exact rfl) (by omega) ?_ | refine k_blk ?_ | fail
    refine c_round (k + 1, v3) [1, 1, 1] ?_ ⟨rfl, rfl, rfl, rfl, rfl, rfl, trivial⟩ (by dsimp only; omega) (by dsimp only; omega)
    dsimp only
    rw [htk, esV_append]
    exact rfl
  obtain rfl : k = es.length := by omega
  rw [List.take_length]
  obtain ⟨es', hm1, hG', hel', hRen⟩ := ren_make (p := pn l) hG (fun v hv => (hpe v hv).2) (fun u v hu hv e => hO.pn_inj hu hv e) (fun v hv => hO.pn_surj hv)
  repeat' first
    | refine k_then ?_ | refine c_seq ?_ | refine c_region ?_ | refine s_nil ?_ | refine s_move (by exact rfl) (by exact rfl) ?_ | refine s_fa (by exact rfl) (by exact rfl) ?_ | refine s_ld_box (by exact rfl) (by exact rfl) (by exact .tail _ (.tail _ (.head _))) (by exact rfl) ?_ | refine s_lss (by exact rfl) (by exact rfl) (by exact rfl) ?_ | refine s_len (by exact rfl) (by exact rfl) (by assumption) ?_ | refine c_exit ?_ | refine k_then_exit ?_ | refine k_blk_eq ?_ | (refine c_cond_p (by exact rfl) (fun h => ?_) (fun h => ?_) <;> try (exfalso; omega)) | fail
  refine o_call (vs := [.int .i64 (N : Int), ve]) (by exact rfl) (by exact rfl) (fun w h => refMake_ok (N : Int) ve (es.map (renE (pn l))) w (by rw [List.length_map]; exact hve) (ro_own h (by exact .head _)) (by rw [List.length_map]; omega)) ?_
  rintro _ _ ⟨v2, rfl, rfl⟩
  rw [hm1]
  rw [if_pos (show ((0 : Int), es').1 = 0 from rfl)]
  dsimp only
  rw [hel']
  refine know_row (v := v2) (.head _) fun hv2 _ => ?_
  repeat' first
    | refine s_move (by exact rfl) (by exact rfl) ?_ | refine s_extract (by exact rfl) (by exact rfl) (by exact rfl) ?_ | refine o_alloc (by exact rfl) (fun b => ?_) | fail
  revert b; intro b15
  refine o_stk_box (i := 0) (us := [.int .i64 (N : Int), v2]) (by exact rfl) (by exact rfl) (by exact rfl) (by exact rfl) (by exact rfl) (by
    intro u hu
    simp only [List.mem_cons, List.not_mem_nil, or_false] at hu
    rcases hu with rfl | rfl
    · rfl
    · exact hv2.one) (by simp [Value.cells]) ?_
  repeat' first
    | refine k_then ?_ | refine c_seq ?_ | refine c_region ?_ | refine s_nil ?_ | refine s_assign (by exact rfl) (by exact rfl) ?_ | refine s_fa (by exact rfl) (by exact rfl) ?_ | refine s_ld_box (by exact rfl) (by exact rfl) (by exact .tail _ (.tail _ (.tail _ (.tail _ (.head _))))) (by exact rfl) ?_ | fail
  have hlenR : R.length = N := hRot.len
  have hRlen : hr0.length = N := by rw [hRs.len, hlenR]
  have hsvr : Shp vr R.length := hRs.shp
  have hrvr := hRs.ro
  have hl4 : ∀ x ∈ R, x.length ≤ 1000 := fun x hx => by
    have := l4 (x.map fun k : Nat => (k : Int)) (List.mem_map.2 ⟨x, hx, rfl⟩)
    rwa [List.length_map] at this
  refine o_make (by exact rfl) (by exact rfl) (by exact rfl) (by omega) (by omega) fun vS hvS => ?_
  have hvS : Shp vS N := hvS
  repeat' first
    | refine k_then ?_ | refine c_seq ?_ | refine c_region ?_ | refine s_nil ?_ | refine s_assign (by exact rfl) (by exact rfl) ?_ | refine c_block ?_ | fail
  refine c_nils 3 1 N ?_
  refine c_loop (fun x : Nat × List Value × List (List Nat) => x.1 ≤ N ∧ x.2.1.length = N ∧ RenL N R (pn l) x.1 0 x.2.2) (fun x => [(1, vr), (4, .pointer (some ⟨b3, 0, none⟩)), (8, .bool false), (9, vo), (15, .pointer (some ⟨b15, 0, none⟩)), (17, vS), (18, .int .i64 (x.1 : Int))])
    (fun x => [rowHP vS 28 1 N x.2.1, starHP (kids rowN x.2.1 x.2.2), boxHP b15 24 [.int .i64 (N : Int), v2], rowHP v2 37 3 es.length (esV es'), rowHP vo 3 1 N (iV l), boxHP b3 24 [.int .i64 (N : Int), v]]) (fun x => N - x.1) (0, List.replicate N (.slice none 0 0), List.replicate N []) [1, 0, 0, 0, 1, 1] ⟨Nat.zero_le _, by simp, RenL.start N R (pn l)⟩ ?_ ⟨rfl, rfl, rfl, rfl, rfl, rfl, rfl, trivial⟩ ?_
  · have z1 : (madeCells (Value.slice none 0 0).cells ((N : Int).toNat * 1)).toList = List.replicate N (.slice none 0 0) := by rw [made1 rfl]; rfl
    rw [z1, kids_nils]
    exact rfl
  rintro ⟨k, heads, A⟩ ⟨hk, hhl, hRL⟩
  dsimp only at hk hhl hRL ⊢
  by_cases hkl : k < N
  · obtain ⟨hx, hhx⟩ : ∃ x, hr0[k]? = some x := ⟨_, List.getElem?_eq_getElem (by omega)⟩
    have hl0 : R[k]? = some (rf R k) := by rw [rf, List.getD_eq_getElem?_getD, List.getElem?_eq_getElem (by omega)]; rfl
    obtain ⟨hsx, hrx⟩ := hRs.kid k hx _ hhx hl0
    have h1' : hr0[k * 1]? = some hx := by rw [Nat.mul_one]; exact hhx
    have h1000 := hl4 _ (List.mem_of_getElem? hl0)
    obtain ⟨p1, p2⟩ := hpe k hkl
    have gk := iV_get (l := l) (k := k) (by omega)
    rw [p1] at gk
    repeat' first
      | refine k_then ?_ | refine c_seq ?_ | refine c_region ?_ | refine s_nil ?_ | refine s_move (by exact rfl) (by exact rfl) ?_ | refine s_assign (by exact rfl) (by exact rfl) ?_ | refine s_fa (by exact rfl) (by exact rfl) ?_ | refine s_ld_box (by exact rfl) (by exact rfl) (by exact .tail _ (.tail _ (.tail _ (.tail _ (.tail _ (.head _)))))) (by exact rfl) ?_ | refine s_lss (by exact rfl) (by exact rfl) (by exact rfl) ?_ | refine c_block ?_ | refine c_skip ?_ | (refine c_cond_p (by exact rfl) (fun h => ?_) (fun h => ?_) <;> try (exfalso; omega)) | fail
    refine c_loop (fun x : Nat × List Value × List (List Nat) => x.1 ≤ (rf R k).length ∧ x.2.1.length = N ∧ RenL N R (pn l) k x.1 x.2.2) (fun x => [(1, vr), (4, .pointer (some ⟨b3, 0, none⟩)), (8, .bool false), (9, vo), (15, .pointer (some ⟨b15, 0, none⟩)), (17, vS), (18, .int .i64 (k : Int)), (19, .int .i64 (x.1 : Int))])
      (fun x => [rowHP vS 28 1 N x.2.1, starHP (kids rowN x.2.1 x.2.2), boxHP b15 24 [.int .i64 (N : Int), v2], rowHP v2 37 3 es.length (esV es'), rowHP vo 3 1 N (iV l), boxHP b3 24 [.int .i64 (N : Int), v]]) (fun x => (rf R k).length - x.1) (0, heads, A) [0, 0, 0, 0, 0, 0] ⟨Nat.zero_le _, hhl, hRL⟩ (by exact rfl) ⟨rfl, rfl, rfl, rfl, rfl, rfl, rfl, rfl, trivial⟩ ?_
    rintro ⟨j, hj1, A1⟩ ⟨hj, hjl, hRL1⟩
    dsimp only at hj hjl hRL1 ⊢
    by_cases hjk : j < (rf R k).length
    · obtain ⟨u, hu⟩ : ∃ u, (rf R k)[j]? = some u := ⟨_, List.getElem?_eq_getElem hjk⟩
      have huN := (hRot.lt hG (List.mem_of_getElem? hu)).1
      simp only [Int.toNat_natCast] at huN
      obtain ⟨p3, p4⟩ := hpe u huN
      have gu := iV_get (l := l) (k := u) (by omega)
      rw [p3] at gu
      have hcu : (nV (rf R k))[j * 1]? = some (.int .i64 (u : Int)) := by rw [Nat.mul_one, nV, List.getElem?_map, hu]; rfl
      obtain ⟨r1, r2, r3⟩ := hRL1.step hkl p2 (fun v hv e => hO.pn_inj hv hkl e) hu
      rw [r3] at r1
      have hA1 := hRL1.len
      have hAl : (((rf R k).take j).map (pn l)).length = j := by rw [List.length_map, List.length_take]; omega
      obtain ⟨hd, hhd⟩ : ∃ hd, hj1[pn l k * 1]? = some hd := ⟨_, List.getElem?_eq_getElem (by omega)⟩
      generalize hp' : pn l k = pk at *
      generalize pn l u = pu at *
      generalize hAA : ((rf R k).take j).map (pn l) = Ak at *
      repeat' first
        | refine k_then ?_ | refine c_seq ?_ | refine c_region ?_ | refine s_nil ?_ | refine s_move (by exact rfl) (by exact rfl) ?_ | refine s_lss (by exact rfl) (by exact rfl) (by exact rfl) ?_ | refine s_len (by exact rfl) (by exact rfl) (by assumption) ?_ | refine s_idx (by exact rfl) (by exact rfl) (by exact rfl) (by assumption) (by first | assumption | omega) ?_ | refine s_ld_ro (by exact rfl) (by exact rfl) (by assumption) (by assumption) ?_ | refine c_block ?_ | refine c_skip ?_ | (refine c_cond_p (by exact rfl) (fun h => ?_) (fun h => ?_) <;> try (exfalso; omega)) | fail
      refine c_take 1 pk (by exact rfl) (kids_get (f := rowN) (by simpa using hhd) r2) ?_
      refine p_begin [(0, true), (1, true), (2, true), (3, true), (4, true), (5, true), (6, true), (7, true), (8, true), (9, true), (10, true), (12, true), (13, true), (14, true), (15, true), (16, true), (17, true), (18, true), (19, true), (20, true), (21, true), .rd 11 22, (23, false), (24, true), (25, false)] [rowHP vo 3 1 N (iV l)] (by kernel_rfl) ?_
      repeat' first
        | (refine p_at (by exact rfl) ?_
           first
            | refine t_move (by exact rfl) (by exact rfl) (by exact fun _ h => h.pick [5] (by exact rfl)) ?_ | refine t_idx (by exact rfl) (by exact rfl) (by exact rfl) (by assumption) (by first | assumption | omega) (by exact fun _ h => h.pick [5] (by exact rfl)) ?_ | refine t_ld_ro (by exact rfl) (by exact rfl) (by assumption) (by assumption) (by exact fun _ h => h.pick [5] (by exact rfl)) ?_ | refine t_ld_row (by exact rfl) (by exact rfl) (by exact .head _) (by assumption) (by exact fun _ h => h.pick [5] (by exact rfl)) ?_ | fail)
        | fail
      refine p_rd ?_ ?_
      all_goals
        repeat' first
          | (refine p_at (by exact rfl) ?_
             first
              | refine r_ld_row (by exact rfl) (by exact rfl) (by exact .tail _ (.head _)) (by assumption) (by exact fun _ h => h.pick [5] (by exact rfl)) ?_ | fail)
          | fail
        refine p_mk [_] (by exact rfl) rfl (by exact rfl) rfl ?_ ?_ (by simp) (fun w A h => h.pick [6] (by exact rfl)) (fun sx hsx => ?_)
        · simp [Value.cells]
        · simp
        repeat' first
          | (refine p_at (by exact rfl) ?_
             first
              | refine r_ld_row (by exact rfl) (by exact rfl) (by exact .tail _ (.tail _ (.head _))) (by assumption) (by exact fun _ h => h.pick [6] (by exact rfl)) ?_ | fail)
          | fail
        refine p_append_row (j := 1) (by exact rfl) rfl (by exact rfl) (by exact rfl) (by exact rfl) (by exact .head _) (by exact rfl) (by simp [Value.cells, Value.oneCell']) ?_ (fun w v h => h.pick [6] (by exact rfl)) (fun vk hvk => ?_)
        · simp only [List.length_cons, List.length_nil]; omega
        repeat' first
          | (refine p_at (by exact rfl) ?_
             first
              | refine t_idx (by exact rfl) (by exact rfl) (by exact rfl) (by assumption) (by first | assumption | omega) (by exact fun _ h => h.pick [6] (by exact rfl)) ?_ | fail)
          | fail
        refine p_st_row (j := 2) (by exact rfl) (by exact rfl) (by exact rfl) (by exact rfl) hvk.one (by omega) (fun w h => h.pick [6] (by exact rfl)) ?_
        repeat' first
          | refine p_nil ?_ | fail
        repeat' first
          | refine k_then ?_ | refine c_region ?_ | refine s_nil ?_ | refine s_move (by exact rfl) (by exact rfl) ?_ | refine s_assign (by exact rfl) (by exact rfl) ?_ | refine s_add (by exact rfl) (by exact rfl) (by exact rfl) (by omega) ?_ | refine k_blk ?_ | fail
        refine c_pick [1, 1, 1, 1, 1, 1, 1] (by exact rfl) ?_
        have e2 : rowHP vk 3 1 (Ak.length + 1) (nV Ak ++ [Value.int .i64 (pu : Int)]) = rowN vk (Ak ++ [pu]) := by
          rw [rowN, List.length_append, show nV (Ak ++ [pu]) = nV Ak ++ [Value.int .i64 (pu : Int)] by simp [nV]]; rfl
        refine c_give 1 pk (by exact rfl) (by simp [kids, hjl, hA1]; omega) ?_
        refine c_round (j + 1, hj1.set pk vk, A1.set pk (Ak ++ [pu])) [0, 0, 0, 0, 0, 0] ?_ ⟨rfl, rfl, rfl, rfl, rfl, rfl, rfl, rfl, trivial⟩ ⟨by dsimp only; omega, by dsimp only; rw [List.length_set]; exact hjl, r1⟩ (by dsimp only; omega)
        dsimp only
        rw [← kids_set (x := empHP), ← e2, Nat.mul_one]
        exact rfl
    · obtain rfl : j = (rf R k).length := by omega
      repeat' first
        | refine k_then ?_ | refine c_seq ?_ | refine c_region ?_ | refine s_nil ?_ | refine s_move (by exact rfl) (by exact rfl) ?_ | refine s_assign (by exact rfl) (by exact rfl) ?_ | refine s_lss (by exact rfl) (by exact rfl) (by exact rfl) ?_ | refine s_add (by exact rfl) (by exact rfl) (by exact rfl) (by omega) ?_ | refine s_len (by exact rfl) (by exact rfl) (by assumption) ?_ | refine s_idx (by exact rfl) (by exact rfl) (by exact rfl) (by assumption) (by first | assumption | omega) ?_ | refine s_ld_ro (by exact rfl) (by exact rfl) (by assumption) (by assumption) ?_ | refine c_exit ?_ | refine k_then_exit ?_ | refine k_blk ?_ | refine k_blk_eq ?_ | (refine c_cond_p (by exact rfl) (fun h => ?_) (fun h => ?_) <;> try (exfalso; omega)) | fail
      refine c_round (k + 1, hj1, A1) [0, 0, 0, 0, 0, 0] (by exact rfl) ⟨rfl, rfl, rfl, rfl, rfl, rfl, rfl, trivial⟩ ⟨by dsimp only; omega, hjl, hRL1.next⟩ (by dsimp only; omega)
  obtain rfl : k = N := by omega
  have hRf : ∀ v, v < k → rf A (pn l v) = (rf R v).map (pn l) := fun v hv => by rw [hRL.at_ v hv, if_pos hv]
  have hRot' := ren_rot hRen hG hG' hRot hRL.len hRf
  obtain ⟨o', lab', hL'⟩ := lev_ex w hG'
  have hpl' := ren_plane hRen hG hG' hRot hRL.len hRf hL hL' hp
  have hRr := hRot.rev
  have hpm : planeR (k : Int).toNat (tn es) lab (R.map List.reverse) = 0 := by rw [planeR, ← plane_mirror2 hG hRot hL, ← planeR]; exact hp
  have hAl := hRL.len
  have hros : ∀ {L : List HP} {w1 : World}, rowHP vS 28 1 k heads ∈ L → starHP (kids rowN heads A) ∈ L → St w No L w1 → ROs w1 No vS heads A := fun h1 h2 h => ros_own h h1 hAl.symm h2
  have hsv2 : Shp v2 es'.length := by rw [hel']; exact hv2
  repeat' first
    | refine k_then ?_ | refine c_seq ?_ | refine c_region ?_ | refine s_nil ?_ | refine s_move (by exact rfl) (by exact rfl) ?_ | refine s_fa (by exact rfl) (by exact rfl) ?_ | refine s_ld_box (by exact rfl) (by exact rfl) (by exact .tail _ (.tail _ (.tail _ (.tail _ (.tail _ (.head _)))))) (by exact rfl) ?_ | refine s_lss (by exact rfl) (by exact rfl) (by exact rfl) ?_ | refine s_ldk_box (by exact rfl) (by exact rfl) (by exact .tail _ (.tail _ (.head _))) (by exact rfl) (by exact rfl) ?_ | refine c_exit ?_ | refine k_then_exit ?_ | refine k_blk_eq ?_ | (refine c_cond_p (by exact rfl) (fun h => ?_) (fun h => ?_) <;> try (exfalso; omega)) | fail
  refine o_call (vs := [.agg #[.int .i64 (k : Int), v2], vS]) (by exact rfl) (by exact rfl) (fun w h => Five_ok (k : Int) v2 es' vS heads A o' lab' w hsv2 (ro_own h (by exact .tail _ (.tail _ (.tail _ (.head _))))) hG' (hros (by exact .head _) (by exact .tail _ (.head _)) h) hRot' hL' (hpl' ▸ planeIs_ok hsv2 (ro_own h (by exact .tail _ (.tail _ (.tail _ (.head _))))) hG' (hros (by exact .head _) (by exact .tail _ (.head _)) h) hRot' hL') hpl' (by omega)) ?_
  rintro _ _ ⟨vd, cd, rfl, hcl, hc5, hcne, rfl⟩
  have hck := col_right hG' hRot' hcl hc5 hcne
  refine know_row (v := vd) (.head _) fun hvd _ => ?_
  repeat' first
    | refine k_then ?_ | refine c_seq ?_ | refine s_nil ?_ | refine s_move (by exact rfl) (by exact rfl) ?_ | refine s_assign (by exact rfl) (by exact rfl) ?_ | refine s_extract (by exact rfl) (by exact rfl) (by exact rfl) ?_ | fail
  refine p_begin0 [(0, true), (1, true), (2, false), (3, false), (4, true), (5, true), (6, true), (7, true), (8, true)] (by kernel_rfl) ?_
  repeat' first
    | (refine p_at (by exact rfl) ?_
       first
        | refine t_move (by exact rfl) (by exact rfl) (by exact fun _ h => h) ?_ | refine t_ldk_box (by exact rfl) (by exact rfl) (by exact .tail _ (.tail _ (.tail _ (.tail _ (.tail _ (.tail _ (.head _))))))) (by exact rfl) (by exact rfl) (by exact fun _ h => h) ?_ | fail)
    | fail
  refine p_call' (vs := [vr]) (by exact rfl) (by exact rfl) (by exact rfl) (fun w h => refMirror_ok vr hr0 (intL R) w (rosI_old h hR) (by omega) hle) ?_
  rintro vm _ ⟨hm, hml, rfl⟩
  refine ⟨fun _ h => h.tl.tl, ?_⟩
  rw [rowI_nat2]
  have hrl2 : (intL R).length = (R.map List.reverse).length := by simp [intL]
  refine p_call' (vs := [.agg #[.int .i64 (k : Int), v], vm]) (by exact rfl) (by exact rfl) (by exact rfl) (fun w h => Five_ok (k : Int) v es vm hm (R.map List.reverse) o lab w hs (ro_old h hr) hG (ros_own h (.head _) hrl2 (.tail _ (.head _))) hRr hL (hpm ▸ planeIs_ok hs (ro_old h hr) hG (ros_own h (.head _) hrl2 (.tail _ (.head _))) hRr hL) hpm (by omega)) ?_
  rintro _ _ ⟨vf, cf, rfl, hcl2, hc52, hcne2, rfl⟩
  have hck2 := col_right hG hRr hcl2 hc52 hcne2
  refine ⟨fun _ h => h.tl.tl.tl, ?_⟩
  refine know_rowP (v := vf) (.head _) fun hvf _ => ?_
  repeat' first
    | refine p_nil ?_
    | (refine p_at (by exact rfl) ?_
       first
        | refine t_move (by exact rfl) (by exact rfl) (by exact fun _ h => h.tl.tl.tl) ?_ | refine t_assign (by exact rfl) (by exact rfl) (by exact fun _ h => h.tl.tl.tl) ?_ | refine t_extract (by exact rfl) (by exact rfl) (by exact rfl) (by exact fun _ h => h.tl.tl.tl) ?_ | fail)
    | fail
  repeat' first
    | refine k_then ?_ | refine c_seq ?_ | refine c_region ?_ | refine s_move (by exact rfl) (by exact rfl) ?_ | refine s_eql (by exact rfl) (by exact rfl) (by exact rfl) ?_ | refine s_pick_t (by exact rfl) (by exact rfl) (by exact rfl) ?_ | (refine g_case (by exact rfl) (by exact rfl) (fun h => ?_) (fun h => ?_) <;> try (exfalso; omega)) | refine w_move (by exact rfl) (by exact rfl) (by exact rfl) (by exact rfl) ?_ | refine w_eql (by exact rfl) (by exact rfl) (by exact rfl) (by exact rfl) (by exact rfl) ?_ | refine w_ldk_box (by exact rfl) (by exact rfl) (by exact rfl) (by exact rfl) (by exact .tail _ (.tail _ (.tail _ (.tail _ (.tail _ (.tail _ (.head _))))))) (by exact rfl) (by exact rfl) ?_ | refine g_on (by exact rfl) (by exact rfl) ?_ | fail
  refine s_call (vs := [.agg #[.int .i64 (k : Int), v2], vd, .int .i64 5]) (by exact rfl) (by exact rfl) (fun w h => refColCheck_ok (k : Int) v2 vd es' (cd.map fun k : Nat => (k : Int)) 5 w hsv2 (ro_own h (by exact .tail _ (.tail _ (.tail _ (.tail _ (.tail _ (.tail _ (.tail _ (.head _))))))))) (by omega) (by rw [List.length_map, hcl]; exact hvd) (by rw [← nV_iV]; exact ro_own h (by exact .tail _ (.tail _ (.tail _ (.head _)))))) ?_
  rw [hck]
  repeat' first
    | refine s_move (by exact rfl) (by exact rfl) ?_ | refine s_pick_t (by exact rfl) (by exact rfl) (by exact rfl) ?_ | (refine g_case (by exact rfl) (by exact rfl) (fun h => ?_) (fun h => ?_) <;> try (exfalso; omega)) | refine w_move (by exact rfl) (by exact rfl) (by exact rfl) (by exact rfl) ?_ | refine w_eql (by exact rfl) (by exact rfl) (by exact rfl) (by exact rfl) (by exact rfl) ?_ | refine w_ldk_box (by exact rfl) (by exact rfl) (by exact rfl) (by exact rfl) (by exact .tail _ (.tail _ (.tail _ (.tail _ (.tail _ (.tail _ (.tail _ (.tail _ (.tail _ (.head _)))))))))) (by exact rfl) (by exact rfl) ?_ | refine g_on (by exact rfl) (by exact rfl) ?_ | fail
  refine s_call (vs := [.agg #[.int .i64 (k : Int), v], vf, .int .i64 5]) (by exact rfl) (by exact rfl) (fun w h => refColCheck_ok (k : Int) v vf es (cf.map fun k : Nat => (k : Int)) 5 w hs (ro_old h hr) (by omega) (by rw [List.length_map, hcl2]; exact hvf) (by rw [← nV_iV]; exact ro_own h (by exact .head _))) ?_
  rw [hck2]
  repeat' first
    | refine s_move (by exact rfl) (by exact rfl) ?_ | refine s_pick_t (by exact rfl) (by exact rfl) (by exact rfl) ?_ | (refine g_case (by exact rfl) (by exact rfl) (fun h => ?_) (fun h => ?_) <;> try (exfalso; omega)) | refine w_eql (by exact rfl) (by exact rfl) (by exact rfl) (by exact rfl) (by exact rfl) ?_ | refine g_on (by exact rfl) (by exact rfl) ?_ | fail
  refine s_call (vs := []) (by exact rfl) (by exact rfl) (fun w h => alive11_ok w) ?_
  repeat' first
    | refine k_then ?_ | refine s_nil ?_ | refine s_assign (by exact rfl) (by exact rfl) ?_ | refine s_pick_t (by exact rfl) (by exact rfl) (by exact rfl) ?_ | refine c_ret ?_ | fail
  refine ret1 [] rfl rfl (by exact rfl) ⟨rfl, rfl⟩
end Go.Proofs.YtpajjnkmaebhcabGreat
end
section
namespace Go.Proofs.YtpajjnkmaebhcabGreat
open Go.ChangeShapes Go.WideShapes Go.ChangeAt Go.RowKit Go.Joins Go.Deep Go.Sl Fil
set_option maxRecDepth 100000
set_option linter.unusedVariables false
set_option linter.unusedSimpArgs false
theorem row_own : ownKnob Tryz.prog.godebug = none := by kernel_rfl
theorem row_laid : laidOutB Tryz.prog = true := by kernel_rfl
theorem cells_graph : Tryz.prog.cellsOf 24 = 2 := by kernel_rfl
theorem cells_edge : Tryz.prog.cellsOf 37 = 3 := by kernel_rfl
theorem cells_int : Tryz.prog.cellsOf 3 = 1 := by kernel_rfl
section
variable {H : Type} {enc : TypeId × Value → H}
theorem slice_spot {P : Program} {w : World} {r : Reach} {base : Nat} {t e : TypeId} {a : Addr} {len cap : Nat} (hu : P.underlying t = some (.slice e)) (h : Cell.okWide P w r base t (.slice (some a) len cap)) : a.spot = none := by
  simp only [Cell.okWide, hu, Cell.ok, World.has] at h
  exact h.2.2.2.1
theorem es_list {n : Nat} {f : Nat → Nat → Value} (h : ∀ i, i < n → ∃ a b c, f i 0 = .int .i64 a ∧ f i 1 = .int .i64 b ∧ f i 2 = .int .i64 c) : ∃ es : List E, es.length = n ∧ ∀ (i : Nat) j u, i < n → j < 3 → (esV es)[i * 3 + j]? = some u → u = f i j := by
  induction n with
  | zero => exact ⟨[], rfl, fun i j u hi => by omega⟩
  | succ n ih =>
    obtain ⟨es, h1, h2⟩ := ih fun i hi => h i (by omega)
    obtain ⟨a, b, c, ha, hb, hc⟩ := h n (by omega)
    refine ⟨es ++ [(a, b, c)], by simp [h1], fun i j u hi hj hu => ?_⟩
    rw [esV_snoc] at hu
    have hl := esV_length es
    by_cases hin : i < n
    · rw [List.getElem?_append_left (by omega)] at hu
      exact h2 i j u hin hj hu
    · obtain rfl : i = n := by omega
      rw [List.getElem?_append_right (by omega), show i * 3 + j - (esV es).length = j from by omega] at hu
      match j, hj with
      | 0, _ => simp [eV] at hu; rw [← hu, ha]
      | 1, _ => simp [eV] at hu; rw [← hu, hb]
      | 2, _ => simp [eV] at hu; rw [← hu, hc]
theorem open_edges {W : World} {base fuel : Nat} {v : Value} {y : DataW H × List MemPlace} (hv : Cell.okWide Tryz.prog W .any base 22 v) (h : DataW.trod enc Tryz.prog W 0 (fun _ => true) true fuel 22 [v] = some y) :
    ∃ es : List E, Shp v es.length ∧ RO W No v (esV es) := by
  rcases open_slice Tryz.underlying22 h with ⟨hcs, _⟩ | ⟨a, len, cap, m, n, D, Pl, hcs, _, hl, hm, hmm, _, hx⟩
  · simp only [List.cons.injEq, and_true] at hcs
    subst hcs
    exact ⟨[], ⟨by simp [maxLen], .inl ⟨rfl, rfl⟩⟩, RO.of_rd fun j u hj => by simp [esV] at hj⟩
  · simp only [List.cons.injEq, and_true] at hcs
    subst hcs
    have hsp := slice_spot Tryz.underlying22 hv
    obtain ⟨g, off, sp⟩ := a
    dsimp only at hsp
    subst hsp
    simp only [if_true] at hmm
    subst hmm
    have key : ∀ i, i < len → ∃ a b c, W.cell? ⟨g, off + (i * 3 + 0), none⟩ = some (.int .i64 a) ∧ W.cell? ⟨g, off + (i * 3 + 1), none⟩ = some (.int .i64 b) ∧ W.cell? ⟨g, off + (i * 3 + 2), none⟩ = some (.int .i64 c) := by
      intro i hi
      obtain ⟨cs, h1, h2⟩ := hx i (by omega)
      rw [cells_edge] at h1
      obtain ⟨_, hlen, hc⟩ := World.cells?_some h1
      obtain ⟨y0, y1, y2, k, _, _, t0, t1, t2⟩ := trod_struct3 Tryz.underlying37 h2
      obtain ⟨a, e0, -, -⟩ := DataW.trod_int Tryz.underlying3 t0
      obtain ⟨b, e1, -, -⟩ := DataW.trod_int Tryz.underlying3 t1
      obtain ⟨c, e2, -, -⟩ := DataW.trod_int Tryz.underlying2 t2
      match cs, hlen, hc, e0, e1, e2 with
      | [x0, x1, x2], _, hc, e0, e1, e2 =>
        have c0 := hc 0 (by omega)
        have c1 := hc 1 (by omega)
        have c2 := hc 2 (by omega)
        have f0 : x0 = .int .i64 a := by
          have : [x0] = [.int .i64 a] := e0
          simpa using this
        have f1 : x1 = .int .i64 b := by
          have : [x1] = [.int .i64 b] := e1
          simpa using this
        have f2 : x2 = .int .i64 c := by
          have : [x2] = [.int .i64 c] := e2
          simpa using this
        subst f0 f1 f2
        refine ⟨a, b, c, ?_, ?_, ?_⟩
        · rw [Deep.add_add] at c0
          rw [show (⟨g, off + (i * 3 + 0), none⟩ : Addr) = (⟨g, off, none⟩ : Addr).add (i * 3 + 0) from by simp [Addr.add]]
          exact c0
        · rw [Deep.add_add] at c1
          rw [show (⟨g, off + (i * 3 + 1), none⟩ : Addr) = (⟨g, off, none⟩ : Addr).add (i * 3 + 1) from by simp [Addr.add]]
          exact c1
        · rw [Deep.add_add] at c2
          rw [show (⟨g, off + (i * 3 + 2), none⟩ : Addr) = (⟨g, off, none⟩ : Addr).add (i * 3 + 2) from by simp [Addr.add]]
          exact c2
    obtain ⟨es, he1, he2⟩ := es_list (n := len) (f := fun i j => (W.cell? ⟨g, off + (i * 3 + j), none⟩).getD undef) (fun i hi => by
      obtain ⟨a, b, c, h0, h1, h2⟩ := key i hi
      exact ⟨a, b, c, congrArg (fun x => Option.getD x undef) h0, congrArg (fun x => Option.getD x undef) h1, congrArg (fun x => Option.getD x undef) h2⟩)
    subst he1
    refine ⟨es, ⟨by omega, .inr (.inl ⟨g, off, m, rfl, hl, hm⟩)⟩, RO.of_rd fun j u hj => ⟨g, off, es.length, m, rfl, ?_⟩⟩
    have hlt := (List.getElem?_eq_some_iff.1 hj).1
    rw [esV_length] at hlt
    have hd : j / 3 * 3 + j % 3 = j := by omega
    have hu := he2 (j / 3) (j % 3) u (by omega) (by omega) (by rw [hd]; exact hj)
    rw [hd] at hu
    obtain ⟨a, b, c, h0, h1, h2⟩ := key (j / 3) (by omega)
    have hex : ∃ x, W.cell? ⟨g, off + j, none⟩ = some x := by
      have : j % 3 = 0 ∨ j % 3 = 1 ∨ j % 3 = 2 := by omega
      rcases this with h | h | h
      · exact ⟨_, by rw [← hd, h]; exact h0⟩
      · exact ⟨_, by rw [← hd, h]; exact h1⟩
      · exact ⟨_, by rw [← hd, h]; exact h2⟩
    obtain ⟨x, hx⟩ := hex
    rw [hx] at hu ⊢
    rw [hu]
    rfl
theorem open_graph {W : World} {base : Nat} {v : Value} {d : DataW H} {p : List MemPlace} (hv : Value.okWide Tryz.prog W .any base 24 v) (h : DataW.Trod enc Tryz.prog W 0 (fun _ => true) true 24 v d p) :
    ∃ (n : Int) (u : Value) (es : List E), v = .agg #[.int .i64 n, u] ∧ Shp u es.length ∧ RO W No u (esV es) := by
  obtain ⟨c0, c1, y0, y1, m, rfl, -, -, hy0, hy1⟩ := open_agg2 Tryz.underlying24 (by kernel_rfl) cells_graph hv h
  obtain ⟨a, e0, -, -⟩ := DataW.trod_int Tryz.underlying3 hy0
  simp only [List.cons.injEq, and_true] at e0
  subst e0
  have hc : Cell.okWide Tryz.prog W .any base 22 c1 := by
    simp only [Value.okWide, Tryz.underlying24] at hv
    obtain ⟨cs, hcs, _, ts, hts, _, hall⟩ := hv
    obtain rfl : cs = #[.int .i64 a, c1] := by simpa using hcs.symm
    have e : Tryz.prog.cellTypes Tryz.prog.depth 24 = some [3, 22] := by kernel_rfl
    rw [e] at hts
    obtain rfl : [3, 22] = ts := by simpa using hts
    obtain ⟨u, hu, hok⟩ := hall 1 c1 rfl
    obtain rfl : 22 = u := by simpa using hu
    exact hok
  obtain ⟨es, h1, h2⟩ := open_edges hc hy1
  exact ⟨a, c1, es, rfl, h1, h2⟩
end
end Go.Proofs.YtpajjnkmaebhcabGreat
end
section
namespace Go.Proofs.YtpajjnkmaebhcabGreat
open Go.ChangeShapes Go.WideShapes Go.ChangeAt Go.RowKit Go.Joins Go.Deep Go.Sl Fil
set_option maxRecDepth 100000
set_option linter.unusedVariables false
set_option linter.unusedSimpArgs false
section
variable {H : Type} {enc : TypeId × Value → H}
theorem okc_one {W : World} {base : Nat} {v x : Value} (hc : Cell.okWide Tryz.prog W .any base 28 v) (h : v.cells.toList = [x]) : v = x := by
  cases v with
  | agg cs => simp [Cell.okWide, Tryz.underlying28, Cell.ok] at hc
  | _ => simpa [Value.cells] using h
theorem open_numbersw {W : World} {base : Nat} {v : Value} {d : DataW H} {p : List MemPlace} (hv : Value.okWide Tryz.prog W .any base 28 v) (h : DataW.Trod enc Tryz.prog W 0 (fun _ => true) true 28 v d p) :
    ∃ zs : List Int, Shp v zs.length ∧ RO W No v (iV zs) ∧ ∀ z ∈ zs, (Lit.int .i64 z).wf = true := by
  obtain ⟨fuel, hf⟩ := h
  have hc : Cell.okWide Tryz.prog W .any base 28 v := by
    simp only [Value.okWide, Tryz.underlying28] at hv
    exact hv
  rcases open_ints Tryz.underlying28 Tryz.underlying3 cells_int hf with ⟨hcs, _⟩ | ⟨a, len, cap, zs, hcs, _, hl, hm, hzl, _, hx, hw⟩
  · have hv0 : v = .slice none 0 0 := okc_one hc hcs
    subst hv0
    exact ⟨[], ⟨by simp [maxLen], .inl ⟨rfl, rfl⟩⟩, RO.of_rd fun j u hj => by simp [iV] at hj, by simp⟩
  · have hv0 : v = .slice (some a) len cap := okc_one hc hcs
    subst hv0
    have hsp := slice_spot Tryz.underlying28 hc
    obtain ⟨g, off, sp⟩ := a
    dsimp only at hsp
    subst hsp
    rw [if_pos rfl] at hzl
    have htl : (zs.take len).length = len := by rw [List.length_take]; omega
    refine ⟨zs.take len, ⟨by rw [htl]; omega, .inr (.inl ⟨g, off, cap, by rw [htl], by rw [htl]; exact hl, hm⟩)⟩, RO.of_rd fun j u hj => ⟨g, off, len, cap, rfl, ?_⟩, fun z hz => hw z (List.mem_of_mem_take hz)⟩
    have hlt := (List.getElem?_eq_some_iff.1 hj).1
    simp only [iV, List.length_map, htl] at hlt
    have h2 := hx j (by omega)
    rw [show (⟨g, off, none⟩ : Addr).add j = ⟨g, off + j, none⟩ from by simp [Addr.add]] at h2
    rw [h2, ← hj]
    simp only [iV, List.getElem?_map, List.getElem?_take, if_pos hlt]
    rw [List.getD_eq_getElem?_getD, List.getElem?_eq_getElem (by omega)]
    rfl
theorem open_numbers {W : World} {base : Nat} {v : Value} {d : DataW H} {p : List MemPlace} (hv : Value.okWide Tryz.prog W .any base 28 v) (h : DataW.Trod enc Tryz.prog W 0 (fun _ => true) true 28 v d p) :
    ∃ zs : List Int, Shp v zs.length ∧ RO W No v (iV zs) := (open_numbersw hv h).imp fun _ h => ⟨h.1, h.2.1⟩
end
end Go.Proofs.YtpajjnkmaebhcabGreat
end
section
namespace Go.Proofs.YtpajjnkmaebhcabGreat
open Go.ChangeShapes Go.WideShapes Go.ChangeAt Go.RowKit Go.Joins Go.Deep Go.Sl Fil
set_option maxRecDepth 100000
set_option linter.unusedVariables false
set_option linter.unusedSimpArgs false
section
variable {H : Type} {enc : TypeId × Value → H}
theorem pick_lists {n : Nat} {P : Nat → Value → List Int → Prop} (h : ∀ i, i < n → ∃ x l, P i x l) : ∃ (hs : List Value) (ls : List (List Int)), hs.length = n ∧ ls.length = n ∧ ∀ (i : Nat) x l, hs[i]? = some x → ls[i]? = some l → P i x l := by
  induction n with
  | zero => exact ⟨[], [], rfl, rfl, fun i x l h => by simp at h⟩
  | succ n ih =>
    obtain ⟨hs, ls, h1, h2, h3⟩ := ih fun i hi => h i (by omega)
    obtain ⟨x, l, hp⟩ := h n (by omega)
    refine ⟨hs ++ [x], ls ++ [l], by simp [h1], by simp [h2], fun i y m hy hm => ?_⟩
    by_cases hi : i < n
    · rw [List.getElem?_append_left (by omega)] at hy hm
      exact h3 i y m hy hm
    · have hb := (List.getElem?_eq_some_iff.1 hy).1
      simp only [List.length_append, List.length_cons, List.length_nil] at hb
      obtain rfl : i = n := by omega
      rw [List.getElem?_append_right (by omega), show i - hs.length = 0 by omega] at hy
      rw [List.getElem?_append_right (by omega), show i - ls.length = 0 by omega] at hm
      simp at hy hm
      subst hy hm
      exact hp
theorem weights_all {P : Program} {e : TypeId} : ∀ {l : List (DataW H)} {d : DataW H}, d ∈ l → ∀ n ∈ d.weights P e, n ∈ DataW.weightsAll P e l
  | x :: l, d, h, n, hn => by
    rw [DataW.weightsAll]
    rcases List.mem_cons.1 h with rfl | h
    · exact List.mem_append.2 (.inl hn)
    · exact List.mem_append.2 (.inr (weights_all h n hn))
theorem okc_rows {W : World} {base : Nat} {v x : Value} (hc : Cell.okWide Tryz.prog W .any base 25 v) (h : v.cells.toList = [x]) : v = x := by
  cases v with
  | agg cs => simp [Cell.okWide, Tryz.underlying25, Cell.ok] at hc
  | _ => simpa [Value.cells] using h
theorem open_rows {W : World} {base : Nat} {v : Value} {d : DataW H} {p : List MemPlace} (hv : Value.okWide Tryz.prog W .any base 25 v) (h : DataW.Trod enc Tryz.prog W 0 (fun _ => true) true 25 v d p) (hz : ∀ n ∈ d.weights Tryz.prog 25, n ≤ reachBytes) :
    ∃ (hs : List Value) (ls : List (List Int)), ROsI W No v hs ls ∧ ∀ l ∈ ls, l.length ≤ 17592186044416 := by
  obtain ⟨fuel, hf⟩ := h
  have hc : Cell.okWide Tryz.prog W .any base 25 v := by
    simp only [Value.okWide, Tryz.underlying25] at hv
    exact hv
  rcases open_slice1 Tryz.underlying25 (by kernel_rfl) hf with ⟨hcs, _⟩ | ⟨a, len, cap, m, n, V, D, Pl, hcs, _, hl, hm, hmm, hxd, hx⟩
  · have hv0 : v = .slice none 0 0 := okc_rows hc hcs
    subst hv0
    exact ⟨[], [], ⟨⟨by simp [maxLen], .inl ⟨rfl, rfl⟩⟩, rfl, RO.of_rd fun j u hj => by simp at hj, fun i x l hi => by simp at hi⟩, by simp⟩
  · have hv0 : v = .slice (some a) len cap := okc_rows hc hcs
    subst hv0
    have hsp := slice_spot Tryz.underlying25 hc
    obtain ⟨g, off, sp⟩ := a
    dsimp only at hsp
    subst hsp
    rw [if_pos rfl] at hmm
    subst hmm
    obtain ⟨hs, ls, h1, h2, h3⟩ := pick_lists (n := len) (P := fun i x l => W.cell? ⟨g, off + i, none⟩ = some x ∧ (Shp x l.length ∧ RO W No x (iV l)) ∧ l.length ≤ 17592186044416) fun i hi => by
      obtain ⟨c1, c2⟩ := hx i (by omega)
      rw [show (⟨g, off, none⟩ : Addr).add i = ⟨g, off + i, none⟩ from by simp [Addr.add]] at c1
      rcases open_ints Tryz.underlying28 Tryz.underlying3 cells_int c2 with ⟨e, _⟩ | ⟨a', len', cap', zs, e, _, hl', hm', hzl, hdd, hx', _⟩
      · obtain e : V i = .slice none 0 0 := by simpa using e
        rw [e] at c1
        exact ⟨_, [], c1, ⟨⟨by simp [maxLen], .inl ⟨rfl, rfl⟩⟩, RO.of_rd fun j u hj => by simp [iV] at hj⟩, by simp⟩
      · obtain e : V i = .slice (some a') len' cap' := by simpa using e
        rw [e] at c1
        rw [if_pos rfl] at hzl
        by_cases h0 : cap' = 0
        · obtain rfl : len' = 0 := by omega
          subst h0
          exact ⟨_, [], c1, ⟨⟨by simp [maxLen], .inr (.inr ⟨⟨_, rfl⟩, rfl⟩)⟩, RO.of_rd fun j u hj => by simp [iV] at hj⟩, by simp⟩
        · have hsp := World.cell?_spot (hx' 0 (by omega))
          obtain ⟨g', off', sp'⟩ := a'
          obtain rfl : sp' = none := by simpa [Addr.add] using hsp
          have htl : (zs.take len').length = len' := by rw [List.length_take]; omega
          have hzz : len' ≤ 17592186044416 := by
            have e1 : D i = .slice (lits .i64 (zs.take len')) (lits .i64 (zs.drop len')) := congrArg Prod.fst hdd
            have e2 : (8 : Nat) = Tryz.prog.bytesOf 3 := by kernel_rfl
            have h5 : (zs.length * 8) ∈ (D i).weights Tryz.prog 28 := by
              rw [e1, DataW.weights, Tryz.underlying28]
              refine List.mem_cons.2 (.inl ?_)
              rw [← e2]
              simp [lits]
              omega
            have h6 : (D i) ∈ (List.range len).map D := List.mem_map.2 ⟨i, List.mem_range.2 hi, rfl⟩
            have h7 := hz _ (by
              rw [show d = _ from congrArg Prod.fst hxd, DataW.weights, Tryz.underlying25]
              exact List.mem_cons.2 (.inr (List.mem_append.2 (.inl (weights_all h6 _ h5)))))
            simp only [reachBytes] at h7
            omega
          refine ⟨_, zs.take len', c1, ⟨⟨by rw [htl]; omega, .inr (.inl ⟨g', off', cap', by rw [htl], by rw [htl]; exact hl', hm'⟩)⟩, RO.of_rd fun j u hj => ⟨g', off', len', cap', rfl, ?_⟩⟩, by rw [htl]; exact hzz⟩
          have hlt := (List.getElem?_eq_some_iff.1 hj).1
          simp only [iV, List.length_map, htl] at hlt
          have h2 := hx' j (by omega)
          rw [show (⟨g', off', none⟩ : Addr).add j = ⟨g', off' + j, none⟩ from by simp [Addr.add]] at h2
          rw [h2, ← hj]
          simp only [iV, List.getElem?_map, List.getElem?_take, if_pos hlt]
          rw [List.getD_eq_getElem?_getD, List.getElem?_eq_getElem (by omega)]
          rfl
    refine ⟨hs, ls, ⟨⟨by rw [h2]; omega, .inr (.inl ⟨g, off, m, by rw [h2], by rw [h2]; exact hl, hm⟩)⟩, by omega, RO.of_rd fun j u hj => ⟨g, off, len, m, rfl, ?_⟩, fun i x l hi hli => (h3 i x l hi hli).2.1⟩, fun l hl => ?_⟩
    rotate_left
    · obtain ⟨i, hi⟩ := List.getElem?_of_mem hl
      have hb := (List.getElem?_eq_some_iff.1 hi).1
      exact (h3 i _ l (List.getElem?_eq_getElem (show i < hs.length by omega)) hi).2.2
    have hlt := (List.getElem?_eq_some_iff.1 hj).1
    obtain ⟨l, hl2⟩ : ∃ l, ls[j]? = some l := ⟨_, List.getElem?_eq_getElem (by omega)⟩
    exact (h3 j u l hj hl2).1
end
end Go.Proofs.YtpajjnkmaebhcabGreat
end
