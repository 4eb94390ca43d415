/- Of FacesBridges: part 5: what the walks rest on, contracts of functions and plain lemmas; no condition but those that each states. -/
import Derived.Test.YtpajjnkmaebhcaaRe4
import Derived.ProofKit
import Derived.Deep.Slices
import Derived.Deep.Strs
import Derived.Lib.SmallJoins
import Derived.ChangeSlices
import Derived.SizedLaws
set_option linter.unusedVariables false
set_option linter.unusedSimpArgs false
section
set_option linter.unusedVariables false
namespace Go.Proofs.Ytpajjnkmaebhcaa
open Go Go.RowKit Go.Sl Fil
set_option maxRecDepth 100000
set_option maxHeartbeats 8000000
set_option linter.unusedVariables false
set_option linter.unusedSimpArgs false
attribute [local irreducible] Code.wp wpList bodyPost wpQuiet Exit.then Exit.inBlock Post wpAnyH wpOp
theorem HasI_ok (v : Value) (l : List Nat) (i : Int) (w : World) (hi : i = (i.toNat : Int)) (hs : Shp v l.length) (hr : RO w No v (nV l)) :
    Calls Try.prog 25 #[v, .int .i64 i] w (Post w No (Just (.bool (decide (i.toNat ∈ l))))) := by
  have h := HasN_ok v l i.toNat w hs hr
  rwa [← hi] at h
theorem refEuler_ok (n : Int) (v : Value) (es : List E) (vr : Value) (hr0 : List Value) (R : List (List Nat)) (o lab : Nat → Nat) (w : World) (hs : Shp v es.length) (hr : RO w No v (esV es)) (hG : RightG n es) (hR : ROs w No vr hr0 R) (hRot : RotL n.toNat (tn es) R) (hL : Lev n.toNat (nb (tn es)) o lab) :
    Calls Try.prog 22 #[.agg #[.int .i64 n, v], vr] w (Post w No fun r L' => L' = [rowHP r 3 1 (eulerL n.toNat (tn es) lab (facesR n.toNat (tn es) R)).length (iV (eulerL n.toNat (tn es) lab (facesR n.toNat (tn es) R)))]) := by
  have hsr := hR.shp
  have hrr := hR.ro
  have hlo := hG.lo
  have hhi := hG.hi
  have hmany := hG.many
  refine enter0 (vs := [_, _]) Try.func22 rfl Try.ntmps22 rfl ?_
  repeat' first
    | refine k_then ?_
    | refine c_seq ?_
    | refine c_region ?_
    | refine s_nil ?_
    | refine s_assign (by exact rfl) (by exact rfl) ?_
    | refine s_ldk_box (by exact rfl) (by exact rfl) (by exact .head _) (by exact rfl) (by exact rfl) ?_
    | refine o_box (by exact rfl) (by exact rfl) (fun b => ?_)
  revert b; intro bg
  refine o_call (by exact rfl) (by exact rfl) (fun w h => refComps_ok n v es o lab w hs (ro_old h hr) hG hL) ?_
  rintro vc _ ⟨hc, hcl, rfl⟩
  refine know_row (v := vc) (.head _) fun hvc _ => ?_
  repeat' first
    | refine k_then ?_
    | refine c_seq ?_
    | refine c_region ?_
    | refine s_nil ?_
    | refine s_move (by exact rfl) (by exact rfl) ?_
    | refine s_assign (by exact rfl) (by exact rfl) ?_
    | refine s_ldk_box (by exact rfl) (by exact rfl) (by exact .tail _ (.tail _ (.head _))) (by exact rfl) (by exact rfl) ?_
  refine o_call (by exact rfl) (by exact rfl) (fun w h => refFaces_ok n v es vr hr0 R w hs (ro_old h hr) hG (ros_old h hR) hRot) ?_
  rintro vf _ ⟨hf, hfl, rfl⟩
  refine know_row (v := vf) (.head _) fun hvf _ => ?_
  have hcN : (compsS n.toNat lab).length ≤ n.toNat := compsI_length _ _ lab
  have hdec := facesR_dec hG hRot
  have hFne : ∀ f ∈ facesR n.toNat (tn es) R, ∃ d t, f = d :: t ∧ d.1 < n.toNat := fun f hf => by
    cases f with
    | nil => exact absurd rfl (hdec.cy _ hf).1
    | cons d t => exact ⟨d, t, rfl, (dart_lt hG (hdec.perm.mem_iff.1 (List.mem_flatten.2 ⟨_, hf, .head _⟩))).1⟩
  have hFl : (facesR n.toNat (tn es) R).length ≤ 2 * es.length := by
    have h1 := flat_le (C := facesR n.toNat (tn es) R) fun f hf => (hdec.cy f hf).1
    have h2 := hdec.perm.length_eq
    rw [dartsAll_length hG] at h2
    omega
  have hcl2 : ∀ c ∈ compsS n.toNat lab, c.length ≤ n.toNat := fun c hc => by
    obtain ⟨r, h1, h2, rfl⟩ := comp_mem hc
    have := List.length_filter_le (fun u => lab u == r) (List.range n.toNat); simpa using this
  have hK : ∀ c ∈ compsS n.toNat lab, eulerK (tn es) (facesR n.toNat (tn es) R) c = (c.length : Int) - (((tn es).filter fun e => decide (e.1 ∈ c)).length : Int) + (((facesR n.toNat (tn es) R).filter fun f => decide ((f.headD (0, 0)).1 ∈ c)).length : Int) + if ((tn es).filter fun e => decide (e.1 ∈ c)).length = 0 then 1 else 0 := fun c hc => by
    rw [eulerK]
    by_cases h1 : c.length = 1
    · rw [if_pos h1, (single hG hRot hL hc h1).2, h1]
      simp; omega
    · rw [if_neg h1, if_neg fun h => edge_of hG hRot hL hc h1 (List.eq_nil_of_length_eq_zero h)]
      omega
  have hfe : ∀ (c : List Nat) (k : Nat), ((((tn es).take k).filter fun e => decide (e.1 ∈ c)).length) ≤ k := fun c k => by
    have := List.length_filter_le (fun e : Nat × Nat => decide (e.1 ∈ c)) ((tn es).take k)
    rw [List.length_take] at this; omega
  have hff : ∀ (c : List Nat) (k : Nat), ((((facesR n.toNat (tn es) R).take k).filter fun f => decide ((f.headD (0, 0)).1 ∈ c)).length) ≤ k := fun c k => by
    have := List.length_filter_le (fun f : List (Nat × Nat) => decide ((f.headD (0, 0)).1 ∈ c)) ((facesR n.toNat (tn es) R).take k)
    rw [List.length_take] at this; omega
  unfold eulerL
  generalize facesR n.toNat (tn es) R = Fs at *
  generalize compsS n.toNat lab = cs at *
  rw [List.length_map]
  refine c_nil 3 1 ?_
  repeat' first
    | refine k_then ?_
    | refine c_seq ?_
    | refine c_region ?_
    | refine s_nil ?_
    | refine s_assign (by exact rfl) (by exact rfl) ?_
    | refine c_block ?_
  refine c_loop (fun x : Nat × Value => x.1 ≤ cs.length) (fun x => [(1, vr), (2, .pointer (some ⟨bg, 0, none⟩)), (5, vc), (6, vf), (7, x.2), (8, .int .i64 (x.1 : Int))])
    (fun x => [rowHP x.2 3 1 x.1 (iV ((cs.take x.1).map (eulerK (tn es) Fs))), rowHP vf 41 1 Fs.length hf, starHP (kids rowD hf Fs), rowHP vc 36 1 cs.length hc, starHP (kids rowN hc cs), boxHP bg 24 [.int .i64 n, v]])
    (fun x => cs.length - x.1) (0, .slice none 0 0) [0, 0, 0, 0, 0, 0] (Nat.zero_le _) (by exact rfl) ⟨rfl, rfl, rfl, rfl, rfl, rfl, trivial⟩ ?_
  rintro ⟨i, vo⟩ hi
  dsimp only at hi ⊢
  by_cases hil : i < cs.length
  · obtain ⟨c, hci⟩ : ∃ c, cs[i]? = some c := ⟨_, List.getElem?_eq_getElem hil⟩
    obtain ⟨hd, hhd⟩ : ∃ hd, hc[i]? = some hd := ⟨_, List.getElem?_eq_getElem (by omega)⟩
    have hhd1 : hc[i * 1]? = some hd := by rw [Nat.mul_one]; exact hhd
    have hcm := List.mem_of_getElem? hci
    have hcl3 := hcl2 c hcm
    have hKc := hK c hcm
    have hfec := hfe c
    have hffc := hff c
    have hkd : rowHP hd 3 1 c.length (nV c) ∈ kids rowN hc cs := kids_mem (f := rowN) hhd hci
    repeat' first
      | refine k_then ?_
      | refine c_seq ?_
      | refine c_region ?_
      | refine s_nil ?_
      | refine s_move (by exact rfl) (by exact rfl) ?_
      | refine s_lss (by exact rfl) (by exact rfl) (by exact rfl) ?_
      | refine s_len (by exact rfl) (by exact rfl) (by assumption) ?_
      | refine s_idx (by exact rfl) (by exact rfl) (by exact rfl) (by assumption) (by first | assumption | omega) ?_
      | refine s_ld_row (by exact rfl) (by exact rfl) (by exact .tail _ (.tail _ (.tail _ (.head _)))) (by assumption) ?_
      | refine c_block ?_
      | refine c_skip ?_
      | (refine c_cond_p (by exact rfl) (fun h => ?_) (fun h => ?_) <;> try (exfalso; omega))
    refine know_kid (by exact .tail _ (.tail _ (.tail _ (.tail _ (.head _))))) hkd fun hsd _ => ?_
    repeat' first
      | refine k_then ?_
      | refine c_seq ?_
      | refine c_region ?_
      | refine s_nil ?_
      | refine s_assign (by exact rfl) (by exact rfl) ?_
      | refine s_len (by exact rfl) (by exact rfl) (by assumption) ?_
      | refine c_block ?_
    refine c_loop (fun k : Nat => k ≤ es.length) (fun k => [(1, vr), (2, .pointer (some ⟨bg, 0, none⟩)), (5, vc), (6, vf), (7, vo), (8, .int .i64 (i : Int)), (9, .int .i64 (c.length : Int)), (10, .int .i64 (((((tn es).take k).filter fun e => decide (e.1 ∈ c)).length : Nat) : Int)), (11, .int .i64 (k : Int))])
      (fun k => [rowHP vo 3 1 i (iV ((cs.take i).map (eulerK (tn es) Fs))), rowHP vf 41 1 Fs.length hf, starHP (kids rowD hf Fs), rowHP vc 36 1 cs.length hc, starHP (kids rowN hc cs), boxHP bg 24 [.int .i64 n, v]])
      (fun k => es.length - k) 0 [0, 0, 0, 0, 0, 0] (Nat.zero_le _) (by exact rfl) ⟨rfl, rfl, rfl, rfl, rfl, rfl, rfl, rfl, rfl, trivial⟩ ?_
    rintro k hk
    have hfk := hfec k
    by_cases hkl : k < es.length
    · obtain ⟨e, he⟩ : ∃ e, es[k]? = some e := ⟨_, List.getElem?_eq_getElem hkl⟩
      obtain ⟨o1, o2, o3, o4, _⟩ := hG.ok e (List.mem_of_getElem? he)
      have het : (tn es)[k]? = some (e.1.toNat, e.2.1.toNat) := by rw [tn, List.getElem?_map, he]; rfl
      have hcnt := fcount (fun e : Nat × Nat => decide (e.1 ∈ c)) het
      have hE0 : (esV es)[k * 3 + 0]? = some (.int .i64 e.1) := (esV_get he).1
      repeat' first
        | refine k_then ?_
        | refine c_seq ?_
        | refine c_region ?_
        | refine s_nil ?_
        | refine s_move (by exact rfl) (by exact rfl) ?_
        | refine s_fa (by exact rfl) (by exact rfl) ?_
        | refine s_ld_box (by exact rfl) (by exact rfl) (by exact .tail _ (.tail _ (.tail _ (.tail _ (.tail _ (.head _)))))) (by exact rfl) ?_
        | refine s_lss (by exact rfl) (by exact rfl) (by exact rfl) ?_
        | refine s_len (by exact rfl) (by exact rfl) (by assumption) ?_
        | refine c_block ?_
        | refine c_skip ?_
        | (refine c_cond_p (by exact rfl) (fun h => ?_) (fun h => ?_) <;> try (exfalso; omega))
      refine p_begin0 [(0, true), (1, true), (2, true), (3, true), (4, true), (5, true), (6, true), (7, true), (8, true), (9, true), (10, false)] (by kernel_rfl) ?_
      repeat' first
        | (refine p_at (by exact rfl) ?_
           first
            | refine t_move (by exact rfl) (by exact rfl) (by exact fun _ h => h) ?_
            | refine t_fa (by exact rfl) (by exact rfl) (by exact fun _ h => h) ?_
            | refine t_ld_box (by exact rfl) (by exact rfl) (by exact .tail _ (.tail _ (.tail _ (.tail _ (.tail _ (.head _)))))) (by exact rfl) (by exact fun _ h => h) ?_
            | refine t_idx (by exact rfl) (by exact rfl) (by exact rfl) (by assumption) (by first | assumption | omega) (by exact fun _ h => h) ?_
            | refine t_fap (by exact rfl) (by exact rfl) (by assumption) (by omega) (by exact fun _ h => h) ?_
            | refine t_ld_ro (by exact rfl) (by exact rfl) (by assumption) (by assumption) (by exact fun _ h => h) ?_
            | refine t_ld_row (by exact rfl) (by exact rfl) (by exact .tail _ (.tail _ (.tail _ (.head _)))) (by assumption) (by exact fun _ h => h) ?_)
      refine p_call (gd := none) (by exact rfl) rfl (by exact rfl) (fun w h => HasI_ok hd c e.1 w (by omega) hsd (ro_kid h (by exact .tail _ (.tail _ (.tail _ (.tail _ (.head _))))) hkd)) (by exact fun _ h => h) ?_
      by_cases hin : e.1.toNat ∈ c
      · rw [decide_eq_true hin]
        rw [if_pos (decide_eq_true hin)] at hcnt
        have hc1 : (((((tn es).take (k + 1)).filter fun e => decide (e.1 ∈ c)).length : Nat) : Int) = (((((tn es).take k).filter fun e => decide (e.1 ∈ c)).length : Nat) : Int) + 1 := by rw [hcnt]; rfl
        repeat' first
          | refine p_nil ?_
        repeat' first
          | refine k_then ?_
          | refine c_region ?_
          | refine s_nil ?_
          | refine s_move (by exact rfl) (by exact rfl) ?_
          | refine s_assign (by exact rfl) (by exact rfl) ?_
          | refine s_add (by exact rfl) (by exact rfl) (by exact rfl) (by omega) ?_
          | refine k_blk ?_
          | refine c_cond_t (by exact rfl) ?_
        refine c_round (k + 1) [0, 0, 0, 0, 0, 0] (by exact rfl) (by rw [hc1]; exact ⟨rfl, rfl, rfl, rfl, rfl, rfl, rfl, rfl, rfl, trivial⟩) (by omega) (by omega)
      · rw [decide_eq_false hin]
        rw [if_neg (by simpa using hin)] at hcnt
        have hc1 : ((((tn es).take (k + 1)).filter fun e => decide (e.1 ∈ c)).length) = ((((tn es).take k).filter fun e => decide (e.1 ∈ c)).length) := hcnt
        repeat' first
          | refine p_nil ?_
        repeat' first
          | refine k_then ?_
          | refine c_region ?_
          | refine s_nil ?_
          | refine s_move (by exact rfl) (by exact rfl) ?_
          | refine s_assign (by exact rfl) (by exact rfl) ?_
          | refine s_add (by exact rfl) (by exact rfl) (by exact rfl) (by omega) ?_
          | refine c_skip ?_
          | refine k_blk ?_
          | refine c_cond_f (by exact rfl) ?_
        refine c_round (k + 1) [0, 0, 0, 0, 0, 0] (by exact rfl) (by rw [hc1]; exact ⟨rfl, rfl, rfl, rfl, rfl, rfl, rfl, rfl, rfl, trivial⟩) (by omega) (by omega)
    · have hkk : k = (tn es).length := by rw [tn_len]; omega
      rw [hkk, List.take_length] at hfk ⊢
      generalize hce : ((tn es).filter fun e => decide (e.1 ∈ c)).length = ce at *
      rw [tn_len] at hfk
      repeat' first
        | refine k_then ?_
        | refine c_seq ?_
        | refine c_region ?_
        | refine s_nil ?_
        | refine s_move (by exact rfl) (by exact rfl) ?_
        | refine s_assign (by exact rfl) (by exact rfl) ?_
        | refine s_fa (by exact rfl) (by exact rfl) ?_
        | refine s_ld_box (by exact rfl) (by exact rfl) (by exact .tail _ (.tail _ (.tail _ (.tail _ (.tail _ (.head _)))))) (by exact rfl) ?_
        | refine s_lss (by exact rfl) (by exact rfl) (by exact rfl) ?_
        | refine s_sub (by exact rfl) (by exact rfl) (by exact rfl) (by omega) ?_
        | refine s_len (by exact rfl) (by exact rfl) (by assumption) ?_
        | refine c_block ?_
        | refine c_exit ?_
        | refine k_then_exit ?_
        | refine k_blk_eq ?_
        | (refine c_cond_p (by exact rfl) (fun h => ?_) (fun h => ?_) <;> try (exfalso; omega))
      refine c_loop (fun j : Nat => j ≤ Fs.length) (fun j => [(1, vr), (2, .pointer (some ⟨bg, 0, none⟩)), (5, vc), (6, vf), (7, vo), (8, .int .i64 (i : Int)), (9, .int .i64 ((c.length : Int) - (ce : Int) + ((((Fs.take j).filter fun f => decide ((f.headD (0, 0)).1 ∈ c)).length : Nat) : Int))), (10, .int .i64 (ce : Int)), (12, .int .i64 (j : Int))])
        (fun j => [rowHP vo 3 1 i (iV ((cs.take i).map (eulerK (tn es) Fs))), rowHP vf 41 1 Fs.length hf, starHP (kids rowD hf Fs), rowHP vc 36 1 cs.length hc, starHP (kids rowN hc cs), boxHP bg 24 [.int .i64 n, v]])
        (fun j => Fs.length - j) 0 [0, 0, 0, 0, 0, 0] (Nat.zero_le _) (by exact rfl) (by simp only [List.take_zero, List.filter_nil, List.length_nil, Int.natCast_zero, Int.add_zero]; exact ⟨rfl, rfl, rfl, rfl, rfl, rfl, rfl, rfl, rfl, trivial⟩) ?_
      rintro j hj
      have hfj := hffc j
      by_cases hjl : j < Fs.length
      · obtain ⟨f, hf1⟩ : ∃ f, Fs[j]? = some f := ⟨_, List.getElem?_eq_getElem hjl⟩
        obtain ⟨hd2, hhd2⟩ : ∃ hd, hf[j]? = some hd := ⟨_, List.getElem?_eq_getElem (by omega)⟩
        have hhd3 : hf[j * 1]? = some hd2 := by rw [Nat.mul_one]; exact hhd2
        obtain ⟨d, t, rfl, hdN⟩ := hFne f (List.mem_of_getElem? hf1)
        have hcnt := fcount (fun f : List (Nat × Nat) => decide ((f.headD (0, 0)).1 ∈ c)) hf1
        have hkd2 : rowHP hd2 43 2 (d :: t).length (dsV (d :: t)) ∈ kids rowD hf Fs := kids_mem (f := rowD) hhd2 hf1
        have hd0 : (dsV (d :: t))[0 * 2 + 0]? = some (.int .i64 (d.1 : Int)) := rfl
        have hpos : 0 < (d :: t).length := by simp
        repeat' first
          | refine k_then ?_
          | refine c_seq ?_
          | refine c_region ?_
          | refine s_nil ?_
          | refine s_move (by exact rfl) (by exact rfl) ?_
          | refine s_lss (by exact rfl) (by exact rfl) (by exact rfl) ?_
          | refine s_len (by exact rfl) (by exact rfl) (by assumption) ?_
          | refine c_block ?_
          | refine c_skip ?_
          | (refine c_cond_p (by exact rfl) (fun h => ?_) (fun h => ?_) <;> try (exfalso; omega))
        refine know_kid (by exact .tail _ (.tail _ (.head _))) hkd2 fun hsd2 _ => ?_
        refine p_begin0 [(0, true), (1, true), (2, true), (3, true), (4, true), (5, true), (6, true), (7, true), (8, true), (9, true), (10, true), (11, false)] (by kernel_rfl) ?_
        repeat' first
          | (refine p_at (by exact rfl) ?_
             first
              | refine t_move (by exact rfl) (by exact rfl) (by exact fun _ h => h) ?_
              | refine t_idx (by exact rfl) (by exact rfl) (by exact rfl) (by assumption) (by first | assumption | omega) (by exact fun _ h => h) ?_
              | refine t_fap (by exact rfl) (by exact rfl) (by assumption) (by omega) (by exact fun _ h => h) ?_
              | refine t_ld_row (by exact rfl) (by exact rfl) (by first | exact .tail _ (.head _) | exact .tail _ (.tail _ (.tail _ (.head _)))) (by assumption) (by exact fun _ h => h) ?_
              | refine t_ld_kid (by exact rfl) (by exact rfl) (by assumption) (by exact .tail _ (.tail _ (.head _))) (by assumption) (by exact fun _ h => h) ?_)
        refine p_call (gd := none) (by exact rfl) rfl (by exact rfl) (fun w h => HasN_ok hd c d.1 w hsd (ro_kid h (by exact .tail _ (.tail _ (.tail _ (.tail _ (.head _))))) hkd)) (by exact fun _ h => h) ?_
        by_cases hin : d.1 ∈ c
        · rw [decide_eq_true hin]
          rw [if_pos (by simpa using hin)] at hcnt
          have hc1 : (c.length : Int) - (ce : Int) + (((((Fs.take (j + 1)).filter fun f => decide ((f.headD (0, 0)).1 ∈ c)).length : Nat) : Int)) = (c.length : Int) - (ce : Int) + (((((Fs.take j).filter fun f => decide ((f.headD (0, 0)).1 ∈ c)).length : Nat) : Int)) + 1 := by rw [hcnt]; omega
          repeat' first
            | refine p_nil ?_
          repeat' first
            | refine k_then ?_
            | refine c_region ?_
            | refine s_nil ?_
            | refine s_move (by exact rfl) (by exact rfl) ?_
            | refine s_assign (by exact rfl) (by exact rfl) ?_
            | refine s_add (by exact rfl) (by exact rfl) (by exact rfl) (by omega) ?_
            | refine k_blk ?_
            | refine c_cond_t (by exact rfl) ?_
          refine c_round (j + 1) [0, 0, 0, 0, 0, 0] (by exact rfl) (by rw [hc1]; exact ⟨rfl, rfl, rfl, rfl, rfl, rfl, rfl, rfl, rfl, trivial⟩) (by omega) (by omega)
        · rw [decide_eq_false hin]
          rw [if_neg (by simpa using hin), Nat.add_zero] at hcnt
          repeat' first
            | refine p_nil ?_
          repeat' first
            | refine k_then ?_
            | refine c_region ?_
            | refine s_nil ?_
            | refine s_move (by exact rfl) (by exact rfl) ?_
            | refine s_assign (by exact rfl) (by exact rfl) ?_
            | refine s_add (by exact rfl) (by exact rfl) (by exact rfl) (by omega) ?_
            | refine c_skip ?_
            | refine k_blk ?_
            | refine c_cond_f (by exact rfl) ?_
          refine c_round (j + 1) [0, 0, 0, 0, 0, 0] (by exact rfl) (by rw [hcnt]; exact ⟨rfl, rfl, rfl, rfl, rfl, rfl, rfl, rfl, rfl, trivial⟩) (by omega) (by omega)
      · obtain rfl : j = Fs.length := by omega
        rw [List.take_length] at hfj ⊢
        have htk : (cs.take (i + 1)).map (eulerK (tn es) Fs) = (cs.take i).map (eulerK (tn es) Fs) ++ [eulerK (tn es) Fs c] := by rw [List.take_add_one, hci, List.map_append]; rfl
        rw [hKc] at htk
        generalize (Fs.filter fun f => decide ((f.headD (0, 0)).1 ∈ c)).length = cf at *
        by_cases h0 : ce = 0
        · rw [if_pos h0] at htk
          repeat' first
            | refine k_then ?_
            | refine c_seq ?_
            | refine c_region ?_
            | refine s_nil ?_
            | refine s_move (by exact rfl) (by exact rfl) ?_
            | refine s_assign (by exact rfl) (by exact rfl) ?_
            | refine s_lss (by exact rfl) (by exact rfl) (by exact rfl) ?_
            | refine s_eql (by exact rfl) (by exact rfl) (by exact rfl) ?_
            | refine s_add (by exact rfl) (by exact rfl) (by exact rfl) (by omega) ?_
            | refine s_len (by exact rfl) (by exact rfl) (by assumption) ?_
            | refine c_exit ?_
            | refine k_then_exit ?_
            | refine k_blk_eq ?_
            | (refine c_cond_p (by exact rfl) (fun h => ?_) (fun h => ?_) <;> try (exfalso; omega))
          refine o_mk [.int .i64 ((c.length : Int) - (ce : Int) + (cf : Int) + 1)] (by exact rfl) (by exact rfl) rfl ?_ ?_ (by simp) fun vt hvt => ?_
          · simp [Value.cells]
          · simp
          skip
          refine o_append_row (i := 1) (by exact rfl) (by exact rfl) (by exact rfl) (by exact rfl) (by exact .head _) (by exact rfl) (by simp [Value.cells, Value.oneCell']) (by omega) fun vy hvy => ?_
          repeat' first
            | refine k_then ?_
            | refine c_region ?_
            | refine s_nil ?_
            | refine s_move (by exact rfl) (by exact rfl) ?_
            | refine s_assign (by exact rfl) (by exact rfl) ?_
            | refine s_add (by exact rfl) (by exact rfl) (by exact rfl) (by omega) ?_
            | refine k_blk ?_
          refine c_round (i + 1, vy) [1, 1, 1, 1, 1, 1] ?_ ⟨rfl, rfl, rfl, rfl, rfl, rfl, trivial⟩ (by dsimp only; omega) (by dsimp only; omega)
          dsimp only
          rw [htk, show ∀ a b : List Int, iV (a ++ b) = iV a ++ iV b from fun a b => by simp [iV]]
          rfl
        · rw [if_neg h0, Int.add_zero] at htk
          repeat' first
            | refine k_then ?_
            | refine c_seq ?_
            | refine c_region ?_
            | refine s_nil ?_
            | refine s_move (by exact rfl) (by exact rfl) ?_
            | refine s_lss (by exact rfl) (by exact rfl) (by exact rfl) ?_
            | refine s_eql (by exact rfl) (by exact rfl) (by exact rfl) ?_
            | refine s_len (by exact rfl) (by exact rfl) (by assumption) ?_
            | refine c_skip ?_
            | refine c_exit ?_
            | refine k_then_exit ?_
            | refine k_blk_eq ?_
            | (refine c_cond_p (by exact rfl) (fun h => ?_) (fun h => ?_) <;> try (exfalso; omega))
          refine o_mk [.int .i64 ((c.length : Int) - (ce : Int) + (cf : Int))] (by exact rfl) (by exact rfl) rfl ?_ ?_ (by simp) fun vt hvt => ?_
          · simp [Value.cells]
          · simp
          skip
          refine o_append_row (i := 1) (by exact rfl) (by exact rfl) (by exact rfl) (by exact rfl) (by exact .head _) (by exact rfl) (by simp [Value.cells, Value.oneCell']) (by omega) fun vy hvy => ?_
          repeat' first
            | refine k_then ?_
            | refine c_region ?_
            | refine s_nil ?_
            | refine s_move (by exact rfl) (by exact rfl) ?_
            | refine s_assign (by exact rfl) (by exact rfl) ?_
            | refine s_add (by exact rfl) (by exact rfl) (by exact rfl) (by omega) ?_
            | refine k_blk ?_
          refine c_round (i + 1, vy) [1, 1, 1, 1, 1, 1] ?_ ⟨rfl, rfl, rfl, rfl, rfl, rfl, trivial⟩ (by dsimp only; omega) (by dsimp only; omega)
          dsimp only
          rw [htk, show ∀ a b : List Int, iV (a ++ b) = iV a ++ iV b from fun a b => by simp [iV]]
          rfl
  · repeat' first
      | refine k_then ?_
      | refine c_seq ?_
      | refine c_region ?_
      | refine s_nil ?_
      | refine s_move (by exact rfl) (by exact rfl) ?_
      | refine s_assign (by exact rfl) (by exact rfl) ?_
      | refine s_lss (by exact rfl) (by exact rfl) (by exact rfl) ?_
      | refine s_len (by exact rfl) (by exact rfl) (by assumption) ?_
      | refine c_exit ?_
      | refine c_ret ?_
      | refine k_then_exit ?_
      | refine k_blk_eq ?_
      | (refine c_cond_p (by exact rfl) (fun h => ?_) (fun h => ?_) <;> try (exfalso; omega))
    obtain rfl : i = cs.length := by omega
    rw [List.take_length]
    refine ret1 [0] rfl rfl rfl rfl
theorem refPlane_ok (n : Int) (v : Value) (es : List E) (vr : Value) (hr0 : List Value) (R : List (List Nat)) (o lab : Nat → Nat) (w : World) (hs : Shp v es.length) (hr : RO w No v (esV es)) (hG : RightG n es) (hR : ROs w No vr hr0 R) (hRot : RotL n.toNat (tn es) R) (hL : Lev n.toNat (nb (tn es)) o lab) :
    Calls Try.prog 23 #[.agg #[.int .i64 n, v], vr] w (Post w No (Just (.int .i64 (planeR n.toNat (tn es) lab R)))) := by
  have hmany := hG.many
  have hsr := hR.shp
  have hrr := hR.ro
  refine enter0 (vs := [_, _]) Try.func23 rfl Try.ntmps23 rfl ?_
  repeat' first
    | refine k_then ?_
    | refine c_seq ?_
    | refine c_region ?_
    | refine s_nil ?_
    | refine s_move (by exact rfl) (by exact rfl) ?_
    | refine s_assign (by exact rfl) (by exact rfl) ?_
    | refine s_ldk_box (by exact rfl) (by exact rfl) (by exact .head _) (by exact rfl) (by exact rfl) ?_
    | refine o_box (by exact rfl) (by exact rfl) (fun b => ?_)
  revert b; intro bg
  refine s_call (by exact rfl) (by exact rfl) (fun w h => refRotRight_ok n v es vr hr0 (intL R) w hs (ro_old h hr) (by omega) (rosI_old h hR.int)) ?_
  rw [rot_zero hG hRot]
  repeat' first
    | refine k_then ?_
    | refine c_seq ?_
    | refine c_region ?_
    | refine s_nil ?_
    | refine s_move (by exact rfl) (by exact rfl) ?_
    | refine s_assign (by exact rfl) (by exact rfl) ?_
    | refine s_neq (by exact rfl) (by exact rfl) (by exact rfl) ?_
    | refine s_ldk_box (by exact rfl) (by exact rfl) (by exact .head _) (by exact rfl) (by exact rfl) ?_
    | refine c_skip ?_
    | (refine c_cond_p (by exact rfl) (fun h => ?_) (fun h => ?_) <;> try (exfalso; omega))
  refine o_call (by exact rfl) (by exact rfl) (fun w h => refEuler_ok n v es vr hr0 R o lab w hs (ro_old h hr) hG (ros_old h hR) hRot hL) ?_
  rintro vo _ rfl
  refine know_row (v := vo) (.head _) fun hvo _ => ?_
  unfold planeR
  generalize eulerL n.toNat (tn es) lab (facesR n.toNat (tn es) R) = l at *
  have hlm := hvo.1
  simp only [maxLen] at hlm
  repeat' first
    | refine k_then ?_
    | refine c_seq ?_
    | refine c_region ?_
    | refine s_nil ?_
    | refine s_assign (by exact rfl) (by exact rfl) ?_
    | refine c_block ?_
  refine c_loop (fun k : Nat => k ≤ l.length ∧ ∀ x ∈ l.take k, x = 2) (fun k => [(6, vo), (7, .int .i64 (k : Int))]) (fun _ => [rowHP vo 3 1 l.length (iV l)]) (fun k => l.length - k) 0 [0] ⟨Nat.zero_le _, by simp⟩ (by exact rfl) ⟨rfl, rfl, trivial⟩ ?_
  rintro k ⟨hk, hq⟩
  by_cases hlt : k < l.length
  · obtain ⟨e, he⟩ : ∃ e, l[k]? = some e := ⟨_, List.getElem?_eq_getElem hlt⟩
    have hE : (iV l)[k * 1]? = some (.int .i64 e) := by rw [Nat.mul_one, iV, List.getElem?_map, he]; rfl
    by_cases h2 : e = 2
    · repeat' first
        | refine k_then ?_
        | refine c_seq ?_
        | refine c_region ?_
        | refine s_nil ?_
        | refine s_move (by exact rfl) (by exact rfl) ?_
        | refine s_assign (by exact rfl) (by exact rfl) ?_
        | refine s_lss (by exact rfl) (by exact rfl) (by exact rfl) ?_
        | refine s_neq (by exact rfl) (by exact rfl) (by exact rfl) ?_
        | refine s_add (by exact rfl) (by exact rfl) (by exact rfl) (by omega) ?_
        | refine s_len (by exact rfl) (by exact rfl) (by assumption) ?_
        | refine s_idx (by exact rfl) (by exact rfl) (by exact rfl) (by assumption) (by first | assumption | omega) ?_
        | refine s_ld_row (by exact rfl) (by exact rfl) (by exact .head _) (by assumption) ?_
        | refine c_block ?_
        | refine c_skip ?_
        | refine k_blk ?_
        | (refine c_cond_p (by exact rfl) (fun h => ?_) (fun h => ?_) <;> try (exfalso; omega))
      refine c_round (k + 1) [0] (by exact rfl) ⟨rfl, rfl, trivial⟩ ⟨by omega, fun x hx => ?_⟩ (by omega)
      rw [List.take_add_one, he] at hx
      rcases List.mem_append.1 hx with hx | hx
      · exact hq x hx
      · obtain rfl : x = e := by simpa using hx
        exact h2
    · repeat' first
        | refine k_then ?_
        | refine c_seq ?_
        | refine c_region ?_
        | refine s_nil ?_
        | refine s_move (by exact rfl) (by exact rfl) ?_
        | refine s_assign (by exact rfl) (by exact rfl) ?_
        | refine s_lss (by exact rfl) (by exact rfl) (by exact rfl) ?_
        | refine s_neq (by exact rfl) (by exact rfl) (by exact rfl) ?_
        | refine s_len (by exact rfl) (by exact rfl) (by assumption) ?_
        | refine s_idx (by exact rfl) (by exact rfl) (by exact rfl) (by assumption) (by first | assumption | omega) ?_
        | refine s_ld_row (by exact rfl) (by exact rfl) (by exact .head _) (by assumption) ?_
        | refine c_block ?_
        | refine c_skip ?_
        | refine c_ret ?_
        | refine k_then_ret ?_
        | refine k_blk_ret ?_
        | (refine c_cond_p (by exact rfl) (fun h => ?_) (fun h => ?_) <;> try (exfalso; omega))
      refine ret1 [] rfl rfl rfl ⟨?_, rfl⟩
      rw [if_pos (List.any_eq_true.2 ⟨e, List.mem_of_getElem? he, decide_eq_true h2⟩)]
  · repeat' first
      | refine k_then ?_
      | refine c_seq ?_
      | refine c_region ?_
      | refine s_nil ?_
      | refine s_move (by exact rfl) (by exact rfl) ?_
      | refine s_assign (by exact rfl) (by exact rfl) ?_
      | refine s_lss (by exact rfl) (by exact rfl) (by exact rfl) ?_
      | refine s_len (by exact rfl) (by exact rfl) (by assumption) ?_
      | refine c_exit ?_
      | refine c_ret ?_
      | refine k_then_exit ?_
      | refine k_blk_eq ?_
      | (refine c_cond_p (by exact rfl) (fun h => ?_) (fun h => ?_) <;> try (exfalso; omega))
    rw [List.take_of_length_le (by omega)] at hq
    refine ret1 [] rfl rfl rfl ⟨?_, rfl⟩
    rw [if_neg]
    rw [List.any_eq_true]
    rintro ⟨x, hx, hne⟩
    exact of_decide_eq_true hne (hq x hx)
theorem refPlane_no (n : Int) (v : Value) (es : List E) (vr : Value) (hr0 : List Value) (ls : List (List Int)) (w : World) (hs : Shp v es.length) (hr : RO w No v (esV es)) (hm : es.length < 4611686018427387904) (hR : ROsI w No vr hr0 ls) (hk : rotK n es ls ≠ 0) :
    Calls Try.prog 23 #[.agg #[.int .i64 n, v], vr] w (Post w No (Just (.int .i64 (rotK n es ls)))) := by
  have hsr := hR.shp
  have hrr := hR.ro
  refine enter0 (vs := [_, _]) Try.func23 rfl Try.ntmps23 rfl ?_
  repeat' first
    | refine k_then ?_
    | refine c_seq ?_
    | refine c_region ?_
    | refine s_nil ?_
    | refine s_move (by exact rfl) (by exact rfl) ?_
    | refine s_assign (by exact rfl) (by exact rfl) ?_
    | refine s_ldk_box (by exact rfl) (by exact rfl) (by exact .head _) (by exact rfl) (by exact rfl) ?_
    | refine o_box (by exact rfl) (by exact rfl) (fun b => ?_)
  refine s_call (by exact rfl) (by exact rfl) (fun w h => refRotRight_ok n v es vr hr0 ls w hs (ro_old h hr) hm (rosI_old h hR)) ?_
  repeat' first
    | refine k_then ?_
    | refine c_seq ?_
    | refine c_region ?_
    | refine s_nil ?_
    | refine s_move (by exact rfl) (by exact rfl) ?_
    | refine s_assign (by exact rfl) (by exact rfl) ?_
    | refine s_neq (by exact rfl) (by exact rfl) (by exact rfl) ?_
    | refine c_ret ?_
    | refine k_then_ret ?_
    | (refine c_cond_p (by exact rfl) (fun h => ?_) (fun h => ?_) <;> try (exfalso; omega))
  refine ret1 [] rfl rfl rfl ⟨rfl, rfl⟩
end Go.Proofs.Ytpajjnkmaebhcaa
end
section
namespace Fil
def lessL (gone : List Int) (es : List E) : List E := (es.zipIdx.filter fun p => !decide ((p.2 : Int) ∈ gone)).map Prod.fst
theorem lessL_take {gone : List Int} {es : List E} {k : Nat} {e : E} (h : es[k]? = some e) : lessL gone (es.take (k + 1)) = lessL gone (es.take k) ++ (if (k : Int) ∈ gone then [] else [e]) := by
  have hl := (List.getElem?_eq_some_iff.1 h).1
  rw [List.take_add_one, h, lessL, Option.toList_some, List.zipIdx_append, List.filter_append, List.map_append, lessL]
  congr 1
  simp only [List.length_take, Nat.min_eq_left (Nat.le_of_lt hl), List.zipIdx_singleton]
  by_cases hk : (k : Int) ∈ gone <;> simp [hk]
theorem lessL_length (gone : List Int) (es : List E) : (lessL gone es).length ≤ es.length := by
  have := List.length_filter_le (fun p : E × Nat => !decide ((p.2 : Int) ∈ gone)) es.zipIdx
  simpa [lessL] using this
theorem lessL_sub (gone : List Int) (es : List E) : (lessL gone es).Sublist es := by
  have h := (List.filter_sublist (p := fun p : E × Nat => !decide ((p.2 : Int) ∈ gone)) (l := es.zipIdx)).map Prod.fst
  rwa [List.zipIdx_map_fst] at h
theorem RightG.sub {n : Int} {es fs : List E} (h : RightG n es) (hs : fs.Sublist es) : RightG n fs :=
  ⟨h.lo, h.hi, Nat.le_trans hs.length_le h.many, fun e he => h.ok e (hs.mem he), h.sorted.sublist hs⟩
end Fil
namespace Go.Proofs.Ytpajjnkmaebhcaa
open Go Go.RowKit Go.Sl Fil
set_option maxRecDepth 100000
set_option maxHeartbeats 8000000
set_option linter.unusedVariables false
set_option linter.unusedSimpArgs false
attribute [local irreducible] Code.wp wpList bodyPost wpQuiet Exit.then Exit.inBlock Post wpAnyH wpOp
theorem refLess_ok (n : Int) (v : Value) (es : List E) (vk : Value) (gone : List Int) (w : World) (hs : Shp v es.length) (hr : RO w No v (esV es)) (hm : es.length ≤ 4194304) (hks : Shp vk gone.length) (hkr : RO w No vk (iV gone)) :
    Calls Try.prog 51 #[.agg #[.int .i64 n, v], vk] w (Post w No fun r L' => ∃ vo, r = .agg #[.int .i64 n, vo] ∧ L' = [rowHP vo 60 3 (lessL gone es).length (esV (lessL gone es))]) := by
  refine enter0 (vs := [_, _]) Try.func51 rfl Try.ntmps51 rfl ?_
  repeat' first
    | refine k_then ?_
    | refine c_seq ?_
    | refine c_region ?_
    | refine s_nil ?_
    | refine s_fa (by exact rfl) (by exact rfl) ?_
    | refine s_ld_box (by exact rfl) (by exact rfl) (by exact .tail _ (.head _)) (by exact rfl) ?_
    | refine o_box (by exact rfl) (by exact rfl) (fun b => ?_)
    | refine o_alloc (by exact rfl) (fun b => ?_)
    | fail
  revert b; intro b4
  revert b; intro b2
  refine o_build [(0, .int .i64 n, [.int .i64 n])] (by exact rfl) (by exact rfl) (by simp [Value.cells]) (by exact rfl) ?_
  repeat' first
    | refine o_alloc (by exact rfl) (fun b => ?_)
    | fail
  revert b; intro b5
  refine o_stk_box (i := 0) (us := [.int .i64 n, .slice none 0 0]) (by exact rfl) (by exact rfl) (by exact rfl) (by exact rfl) (by exact rfl) (by simp [Value.oneCell']) (by simp [Value.cells]) ?_
  repeat' first
    | refine k_then ?_
    | refine c_seq ?_
    | refine c_region ?_
    | refine s_nil ?_
    | refine s_assign (by exact rfl) (by exact rfl) ?_
    | refine c_block ?_
    | fail
  refine c_nil 60 3 ?_
  refine c_loop (fun x : Nat × Value => x.1 ≤ es.length) (fun x => [(1, vk), (2, .pointer (some ⟨b2, 0, none⟩)), (4, .pointer (some ⟨b4, 0, none⟩)), (5, .pointer (some ⟨b5, 0, none⟩)), (6, .int .i64 (x.1 : Int))])
    (fun x => [rowHP x.2 60 3 (lessL gone (es.take x.1)).length (esV (lessL gone (es.take x.1))), boxHP b5 24 [.int .i64 n, x.2], boxHP b4 24 [.int .i64 0, .slice none 0 0], boxHP b2 24 [.int .i64 n, v]]) (fun x => es.length - x.1) (0, .slice none 0 0) [0, 0, 0, 0] (Nat.zero_le _) (by exact rfl) ⟨rfl, rfl, rfl, rfl, rfl, trivial⟩ ?_
  rintro ⟨k, vx⟩ hk
  dsimp only at hk ⊢
  refine know_row (v := vx) (.head _) fun hvx _ => ?_
  by_cases hlt : k < es.length
  · obtain ⟨e, he⟩ : ∃ e, es[k]? = some e := ⟨_, List.getElem?_eq_getElem hlt⟩
    have hE := esV_at he
    have hcnt : (lessL gone (es.take k)).length ≤ k := Nat.le_trans (lessL_length _ _) (by rw [List.length_take]; omega)
    have htk := lessL_take (gone := gone) he
    repeat' first
      | refine k_then ?_
      | refine c_seq ?_
      | refine c_region ?_
      | refine s_nil ?_
      | refine s_move (by exact rfl) (by exact rfl) ?_
      | refine s_fa (by exact rfl) (by exact rfl) ?_
      | refine s_ld_box (by exact rfl) (by exact rfl) (by exact .tail _ (.tail _ (.tail _ (.head _)))) (by exact rfl) ?_
      | refine s_lss (by exact rfl) (by exact rfl) (by exact rfl) ?_
      | refine s_len (by exact rfl) (by exact rfl) (by assumption) ?_
      | refine c_block ?_
      | refine c_skip ?_
      | (refine c_cond_p (by exact rfl) (fun h => ?_) (fun h => ?_) <;> try (exfalso; omega))
      | fail
    refine s_call (by exact rfl) (by exact rfl) (fun w h => Has_ok vk gone k w hks (ro_old h hkr)) ?_
    by_cases hg : (k : Int) ∈ gone
    · rw [if_pos hg, List.append_nil] at htk
      rw [decide_eq_true hg]
      repeat' first
        | refine k_then ?_
        | refine c_region ?_
        | refine s_nil ?_
        | refine s_move (by exact rfl) (by exact rfl) ?_
        | refine s_assign (by exact rfl) (by exact rfl) ?_
        | refine s_add (by exact rfl) (by exact rfl) (by exact rfl) (by omega) ?_
        | refine s_not (by exact rfl) (by exact rfl) ?_
        | refine c_skip ?_
        | refine k_blk ?_
        | refine c_cond_f (by exact rfl) ?_
        | fail
      refine c_round (k + 1, vx) [0, 0, 0, 0] (by dsimp only; rw [htk]; rfl) ⟨rfl, rfl, rfl, rfl, rfl, trivial⟩ (by dsimp only; omega) (by dsimp only; omega)
    · rw [if_neg hg] at htk
      rw [decide_eq_false hg]
      repeat' first
        | refine k_then ?_
        | refine s_nil ?_
        | refine s_not (by exact rfl) (by exact rfl) ?_
        | refine c_cond_t (by exact rfl) ?_
        | fail
      refine p_begin2 [(0, true), (1, true), (2, true), (3, true), (4, true), (5, true), (6, true), (7, false), (8, false)] [(9, true), (10, false)] [boxHP b5 24 [.int .i64 n, vx], boxHP b4 24 [.int .i64 0, .slice none 0 0], boxHP b2 24 [.int .i64 n, v]] (by kernel_rfl) ?_
      repeat' first
        | (refine p_at (by exact rfl) ?_
           first
            | refine t_move (by exact rfl) (by exact rfl) (by exact fun _ h => h.tl) ?_
            | refine t_fa (by exact rfl) (by exact rfl) (by exact fun _ h => h.tl) ?_
            | refine t_ld_box (by exact rfl) (by exact rfl) (by first | exact .head _ | exact .tail _ (.tail _ (.head _))) (by exact rfl) (by exact fun _ h => h.tl) ?_
            | refine t_idx (by exact rfl) (by exact rfl) (by exact rfl) (by assumption) (by first | assumption | omega) (by exact fun _ h => h.tl) ?_
            | refine t_ldk_ro (by exact rfl) (by exact rfl) (by assumption) (by decide) (by assumption) (by exact rfl) (by exact fun _ h => h.tl) ?_
            | fail)
        | fail
      refine p_mk (sz := 3) [.agg (eV e).toArray] (by exact rfl) (by exact rfl) (by exact rfl) rfl (by simp [Value.cells, eV]) (by simp) (by simp) (fun _ _ h => h.tl.tl) fun v2 hv2 => ?_
      refine p_append_row (bytes := 24) (c := 1) (j := 1) (by exact rfl) (by exact rfl) (by exact rfl) (by exact rfl) (by exact rfl) (.head _) (by simp [Value.cells, eV]) (by simp [Value.cells, eV, Value.oneCell']) (by omega) (fun _ _ h => h.tl.tl) (fun v3 hv3 => ?_)
      refine p_nil ?_
      refine p_cut [boxHP b4 24 [.int .i64 0, .slice none 0 0]] (fun _ h => h.pick [3] (by exact rfl)) ?_
      refine p_at (by exact rfl) ?_
      refine t_fa (by exact rfl) (by exact rfl) (fun _ h => h.pick [3] (by exact rfl)) ?_
      refine p_st_box (j := 2) (by exact rfl) (by exact rfl) (by exact rfl) (by exact rfl) hv3.one (by simp) (fun _ h => h.pick [3] (by exact rfl)) ?_
      refine p_nil ?_
      repeat' first
        | refine k_then ?_
        | refine c_region ?_
        | refine s_nil ?_
        | refine s_move (by exact rfl) (by exact rfl) ?_
        | refine s_assign (by exact rfl) (by exact rfl) ?_
        | refine s_add (by exact rfl) (by exact rfl) (by exact rfl) (by omega) ?_
        | refine k_blk ?_
        | fail
      refine c_round (k + 1, v3) [1, 1, 1, 1] ?_ ⟨rfl, rfl, rfl, rfl, rfl, trivial⟩ (by dsimp only; omega) (by dsimp only; omega)
      dsimp only
      rw [htk, show ∀ a b : List E, esV (a ++ b) = esV a ++ esV b from fun a b => by simp [esV], List.length_append]
      rfl
  · repeat' first
      | refine k_then ?_
      | refine c_seq ?_
      | refine c_region ?_
      | refine s_nil ?_
      | refine s_move (by exact rfl) (by exact rfl) ?_
      | refine s_fa (by exact rfl) (by exact rfl) ?_
      | refine s_ld_box (by exact rfl) (by exact rfl) (by exact .tail _ (.tail _ (.tail _ (.head _)))) (by exact rfl) ?_
      | refine s_lss (by exact rfl) (by exact rfl) (by exact rfl) ?_
      | refine s_len (by exact rfl) (by exact rfl) (by assumption) ?_
      | refine s_ldk_box (by exact rfl) (by exact rfl) (by exact .tail _ (.head _)) (by exact rfl) (by exact rfl) ?_
      | refine c_exit ?_
      | refine k_then_exit ?_
      | refine k_blk_eq ?_
      | (refine c_cond_p (by exact rfl) (fun h => ?_) (fun h => ?_) <;> try (exfalso; omega))
      | fail
    obtain rfl : k = es.length := by omega
    refine o_stk_box (i := 2) (us := [.int .i64 n, vx]) (by exact rfl) (by exact rfl) (by exact rfl) (by exact rfl) (by exact rfl) (by
      intro u hu
      simp only [List.mem_cons, List.not_mem_nil, or_false] at hu
      rcases hu with rfl | rfl
      · rfl
      · exact hvx.one) (by simp [Value.cells]) ?_
    repeat' first
      | refine k_then ?_
      | refine s_nil ?_
      | refine c_ret ?_
      | fail
    refine retL [.cell 4 24] [.agg #[.int .i64 n, vx]] [0] rfl ⟨res_cellk (tb := 24) (cs := [.int .i64 n, vx]) rfl (.tail _ (.tail _ (.head _))) rfl rfl, trivial⟩ (by exact rfl) ⟨vx, rfl, ?_⟩
    rw [List.take_length]
theorem Bridges_ok (n : Int) (v : Value) (es : List E) (lab : Nat → Nat) (labs : Nat → Nat → Nat) (o : Nat → Nat) (os : Nat → Nat → Nat) (w : World) (hs : Shp v es.length) (hr : RO w No v (esV es)) (hR : RightG n es) (hL : Lev n.toNat (nb (tn es)) o lab) (hLs : ∀ i : Nat, Lev n.toNat (nb (tn (lessL [(i : Int)] es))) (os i) (labs i)) :
    Calls Try.prog 26 #[.agg #[.int .i64 n, v]] w (Post w No fun r L' => ∃ out : List Nat, out = (List.range es.length).filter (fun i => decide ((compsS n.toNat lab).length < (compsS n.toNat (labs i)).length)) ∧ L' = [rowHP r 3 1 out.length (nV out)]) := by
  have hlo := hR.lo
  have hhi := hR.hi
  have hm := hR.many
  refine enter0 (vs := [_]) Try.func26 rfl Try.ntmps26 rfl ?_
  repeat' first
    | refine k_then ?_
    | refine c_seq ?_
    | refine c_region ?_
    | refine s_nil ?_
    | refine s_assign (by exact rfl) (by exact rfl) ?_
    | refine s_ldk_box (by exact rfl) (by exact rfl) (by exact .head _) (by exact rfl) (by exact rfl) ?_
    | refine o_box (by exact rfl) (by exact rfl) (fun b => ?_)
    | fail
  revert b; intro b1
  refine o_call (by exact rfl) (by exact rfl) (fun w h => refComps_ok n v es o lab w hs (ro_old h hr) hR hL) ?_
  rintro vc _ ⟨hc, hcl, rfl⟩
  refine know_row (v := vc) (.head _) fun hvc _ => ?_
  have hcN : (compsS n.toNat lab).length ≤ n.toNat := compsI_length _ _ lab
  repeat' first
    | refine k_then ?_
    | refine c_seq ?_
    | refine c_region ?_
    | refine s_nil ?_
    | refine s_assign (by exact rfl) (by exact rfl) ?_
    | refine s_len (by exact rfl) (by exact rfl) (by assumption) ?_
    | refine c_block ?_
    | fail
  refine c_nil 3 1 ?_
  refine c_loop (fun x : Nat × List Nat × Value => x.1 ≤ es.length ∧ x.2.1 = (List.range x.1).filter (fun i => decide ((compsS n.toNat lab).length < (compsS n.toNat (labs i)).length))) (fun x => [(1, .pointer (some ⟨b1, 0, none⟩)), (3, x.2.2), (4, .int .i64 ((compsS n.toNat lab).length : Int)), (5, .int .i64 (x.1 : Int))])
    (fun x => [rowHP x.2.2 3 1 x.2.1.length (nV x.2.1), boxHP b1 24 [.int .i64 n, v]]) (fun x => es.length - x.1) (0, [], .slice none 0 0) [0, 2] ⟨Nat.zero_le _, rfl⟩ (by exact rfl) ⟨rfl, rfl, rfl, rfl, trivial⟩ ?_
  rintro ⟨k, out, vx⟩ ⟨hk, hout⟩
  dsimp only at hk hout ⊢
  have hol : out.length ≤ k := by
    rw [hout]
    have := List.length_filter_le (fun i => decide ((compsS n.toNat lab).length < (compsS n.toNat (labs i)).length)) (List.range k)
    rwa [List.length_range] at this
  by_cases hlt : k < es.length
  · have hnx : (List.range (k + 1)).filter (fun i => decide ((compsS n.toNat lab).length < (compsS n.toNat (labs i)).length)) = out ++ (if (compsS n.toNat lab).length < (compsS n.toNat (labs k)).length then [k] else []) := by
      rw [List.range_succ, List.filter_append, ← hout]
      split <;> simp [*]
    repeat' first
      | refine k_then ?_
      | refine c_seq ?_
      | refine c_region ?_
      | refine s_nil ?_
      | refine s_move (by exact rfl) (by exact rfl) ?_
      | refine s_fa (by exact rfl) (by exact rfl) ?_
      | refine s_ld_box (by exact rfl) (by exact rfl) (by exact .tail _ (.head _)) (by exact rfl) ?_
      | refine s_lss (by exact rfl) (by exact rfl) (by exact rfl) ?_
      | refine s_len (by exact rfl) (by exact rfl) (by assumption) ?_
      | refine s_ldk_box (by exact rfl) (by exact rfl) (by exact .tail _ (.head _)) (by exact rfl) (by exact rfl) ?_
      | refine c_block ?_
      | refine c_skip ?_
      | (refine c_cond_p (by exact rfl) (fun h => ?_) (fun h => ?_) <;> try (exfalso; omega))
      | fail
    refine o_mk [.int .i64 (k : Int)] (by exact rfl) (by exact rfl) rfl ?_ ?_ (by simp) fun vi hvi => ?_
    · simp [Value.cells]
    · simp
    skip
    refine o_call (by exact rfl) (by exact rfl) (fun w h => refLess_ok n v es vi [(k : Int)] w hs (ro_old h hr) hm hvi (ro_own h (.head _))) ?_
    rintro _ _ ⟨vl, rfl, rfl⟩
    refine know_row (v := vl) (.head _) fun hvl _ => ?_
    skip
    refine o_call (by exact rfl) (by exact rfl) (fun w h => refComps_ok n vl (lessL [(k : Int)] es) (os k) (labs k) w hvl (ro_own h (.head _)) (hR.sub (lessL_sub _ _)) (hLs k)) ?_
    rintro vd _ ⟨hd, hdl, rfl⟩
    refine know_row (v := vd) (.head _) fun hvd _ => ?_
    have hcN2 : (compsS n.toNat (labs k)).length ≤ n.toNat := compsI_length _ _ (labs k)
    repeat' first
      | refine k_then ?_
      | refine c_region ?_
      | refine s_nil ?_
      | refine s_move (by exact rfl) (by exact rfl) ?_
      | refine s_assign (by exact rfl) (by exact rfl) ?_
      | refine s_gtr (by exact rfl) (by exact rfl) (by exact rfl) ?_
      | refine s_add (by exact rfl) (by exact rfl) (by exact rfl) (by omega) ?_
      | refine s_len (by exact rfl) (by exact rfl) (by assumption) ?_
      | refine c_skip ?_
      | refine k_blk ?_
      | (refine c_cond_p (by exact rfl) (fun h => ?_) (fun h => ?_) <;> try (exfalso; omega))
      | fail
    · rename_i hgt
      rw [if_pos (by omega)] at hnx
      refine o_mk [.int .i64 (k : Int)] (by exact rfl) (by exact rfl) rfl ?_ ?_ (by simp) fun vj hvj => ?_
      · simp [Value.cells]
      · simp
      skip
      refine o_append_row (i := 5) (by exact rfl) (by exact rfl) (by exact rfl) (by exact rfl) (by exact .head _) (by exact rfl) (by simp [Value.cells, Value.oneCell']) (by omega) fun vy hvy => ?_
      repeat' first
        | refine k_then ?_
        | refine c_region ?_
        | refine s_nil ?_
        | refine s_move (by exact rfl) (by exact rfl) ?_
        | refine s_assign (by exact rfl) (by exact rfl) ?_
        | refine s_add (by exact rfl) (by exact rfl) (by exact rfl) (by omega) ?_
        | refine k_blk ?_
        | fail
      refine c_round (k + 1, out ++ [k], vy) [5, 5] ?_ ⟨rfl, rfl, rfl, rfl, trivial⟩ ⟨by dsimp only; omega, by dsimp only; exact hnx.symm⟩ (by dsimp only; omega)
      dsimp only
      rw [show nV (out ++ [k]) = nV out ++ [.int .i64 (k : Int)] by simp [nV], List.length_append]
      rfl
    · rename_i hgt
      rw [if_neg (by omega), List.append_nil] at hnx
      refine c_round (k + 1, out, vx) [4, 4] (by exact rfl) ⟨rfl, rfl, rfl, rfl, trivial⟩ ⟨by dsimp only; omega, by dsimp only; exact hnx.symm⟩ (by dsimp only; omega)
  · repeat' first
      | refine k_then ?_
      | refine c_seq ?_
      | refine c_region ?_
      | refine s_nil ?_
      | refine s_move (by exact rfl) (by exact rfl) ?_
      | refine s_assign (by exact rfl) (by exact rfl) ?_
      | refine s_fa (by exact rfl) (by exact rfl) ?_
      | refine s_ld_box (by exact rfl) (by exact rfl) (by exact .tail _ (.head _)) (by exact rfl) ?_
      | refine s_lss (by exact rfl) (by exact rfl) (by exact rfl) ?_
      | refine s_len (by exact rfl) (by exact rfl) (by assumption) ?_
      | refine c_exit ?_
      | refine c_ret ?_
      | refine k_then_exit ?_
      | refine k_blk_eq ?_
      | (refine c_cond_p (by exact rfl) (fun h => ?_) (fun h => ?_) <;> try (exfalso; omega))
      | fail
    obtain rfl : k = es.length := by omega
    refine ret1 [0] rfl rfl (by exact rfl) ⟨out, hout, rfl⟩
end Go.Proofs.Ytpajjnkmaebhcaa
end
section
set_option linter.unusedVariables false
namespace Fil
theorem tn_mem {es : List E} {u v : Nat} : (u, v) ∈ tn es ↔ ∃ e ∈ es, e.1.toNat = u ∧ e.2.1.toNat = v := by
  simp only [tn, List.mem_map, Prod.mk.injEq]
theorem mem_lessL {es : List E} {i j : Nat} {e : E} (h : es[j]? = some e) (hn : j ≠ i) : e ∈ lessL [(i : Int)] es := by
  rw [lessL, List.mem_map]
  refine ⟨(e, j), List.mem_filter.2 ⟨?_, ?_⟩, rfl⟩
  · rw [List.mem_zipIdx_iff_getElem?]; exact h
  · simp; omega
theorem lessL_idx {es : List E} {i : Nat} {e : E} (h : e ∈ lessL [(i : Int)] es) : ∃ j, j ≠ i ∧ es[j]? = some e := by
  rw [lessL, List.mem_map] at h
  obtain ⟨⟨x, j⟩, h1, rfl⟩ := h
  obtain ⟨h2, h3⟩ := List.mem_filter.1 h1
  refine ⟨j, ?_, by rw [List.mem_zipIdx_iff_getElem?] at h2; exact h2⟩
  simp at h3; omega
/-- edge i joins a and b -/
def Joins (es : List E) (i a b : Nat) : Prop := ∃ e, es[i]? = some e ∧ (e.1.toNat = a ∧ e.2.1.toNat = b ∨ e.1.toNat = b ∧ e.2.1.toNat = a)
theorem Joins.symm {es : List E} {i a b : Nat} (h : Joins es i a b) : Joins es i b a := h.imp fun _ h => ⟨h.1, h.2.symm⟩
theorem near_joins {n : Int} {es : List E} (hR : RightG n es) {a b : Nat} : a ∈ nb (tn es) b ↔ ∃ i, Joins es i a b := by
  rw [mem_nb (good_ne hR.good), tn_mem, tn_mem]
  constructor
  · rintro (⟨e, h1, h2, h3⟩ | ⟨e, h1, h2, h3⟩)
    · obtain ⟨i, hi⟩ := List.getElem?_of_mem h1
      exact ⟨i, e, hi, .inr ⟨h2, h3⟩⟩
    · obtain ⟨i, hi⟩ := List.getElem?_of_mem h1
      exact ⟨i, e, hi, .inl ⟨h2, h3⟩⟩
  · rintro ⟨i, e, h1, ⟨h2, h3⟩ | ⟨h2, h3⟩⟩
    · exact .inr ⟨e, List.mem_of_getElem? h1, h2, h3⟩
    · exact .inl ⟨e, List.mem_of_getElem? h1, h2, h3⟩
theorem less_joins {n : Int} {es : List E} (hR : RightG n es) {i a b : Nat} : a ∈ nb (tn (lessL [(i : Int)] es)) b ↔ ∃ j, j ≠ i ∧ Joins es j a b := by
  have hR2 := hR.sub (lessL_sub [(i : Int)] es)
  rw [mem_nb (good_ne hR2.good), tn_mem, tn_mem]
  constructor
  · rintro (⟨e, h1, h2, h3⟩ | ⟨e, h1, h2, h3⟩)
    · obtain ⟨j, h4, h5⟩ := lessL_idx h1
      exact ⟨j, h4, e, h5, .inr ⟨h2, h3⟩⟩
    · obtain ⟨j, h4, h5⟩ := lessL_idx h1
      exact ⟨j, h4, e, h5, .inl ⟨h2, h3⟩⟩
  · rintro ⟨j, h4, e, h1, ⟨h2, h3⟩ | ⟨h2, h3⟩⟩
    · exact .inr ⟨e, mem_lessL h1 h4, h2, h3⟩
    · exact .inl ⟨e, mem_lessL h1 h4, h2, h3⟩
section
variable {n : Int} {es : List E} {o lab : Nat → Nat} {os labs : Nat → Nat → Nat}
theorem Joins.lt (hR : RightG n es) {i a b : Nat} (h : Joins es i a b) : a < n.toNat ∧ b < n.toNat ∧ a ≠ b := by
  have hG := hR.good
  rcases (mem_nb (good_ne hG)).1 ((near_joins hR).2 ⟨i, h⟩) with h | h
  · have := hG.lt _ h; simp at this; omega
  · have := hG.lt _ h; simp at this; omega
theorem bridge_ne (hR : RightG n es) (hL : Lev n.toNat (nb (tn es)) o lab) (hLs : ∀ i : Nat, Lev n.toNat (nb (tn (lessL [(i : Int)] es))) (os i) (labs i)) {i : Nat} (hB : (compsS n.toNat lab).length < (compsS n.toNat (labs i)).length) {a b : Nat} (h : Joins es i a b) : labs i a ≠ labs i b := by
  intro heq
  have e1 : ∀ v, v < n.toNat → lab v = labs i v := fun v hv => by
    have h1 := hL.conn v hv (labs i) fun w hw u hu => by
      obtain ⟨j, hj⟩ := (near_joins hR).1 hu
      by_cases hji : j = i
      · subst hji
        obtain ⟨e, e1, e2⟩ := h
        obtain ⟨f, f1, f2⟩ := hj
        rw [e1] at f1
        obtain rfl : e = f := by simpa using f1
        rcases e2 with ⟨rfl, rfl⟩ | ⟨rfl, rfl⟩ <;> rcases f2 with ⟨rfl, rfl⟩ | ⟨rfl, rfl⟩ <;> simp_all
      · exact ((hLs i).edge w hw u ((less_joins hR).2 ⟨j, hji, hj⟩)).1
    have h2 := (hLs i).conn v hv lab fun w hw u hu => by
      obtain ⟨j, _, hj⟩ := (less_joins hR).1 hu
      exact (hL.edge w hw u ((near_joins hR).2 ⟨j, hj⟩)).1
    have l1 := hL.le v hv
    have l2 := (hLs i).le v hv
    have l3 := hL.le (labs i v) (by omega)
    have l4 := (hLs i).le (lab v) (by omega)
    omega
  rw [compsS_congr e1] at hB
  omega
end
end Fil
end
section
set_option linter.unusedVariables false
namespace Fil
theorem planeR_two {N : Nat} {l : List (Nat × Nat)} {lab : Nat → Nat} {R : List (List Nat)} (h : planeR N l lab R = 0) : ∀ c ∈ compsS N lab, eulerK l (facesR N l R) c = 2 := by
  intro c hc
  rw [planeR] at h
  split at h
  · omega
  · rename_i hn
    refine Decidable.byContradiction fun hne => hn ?_
    exact List.any_eq_true.2 ⟨_, List.mem_map.2 ⟨c, hc, rfl⟩, decide_eq_true hne⟩
end Fil
end
section
set_option linter.unusedVariables false
namespace Fil
theorem tree_step {l : List (Nat × Nat)} {R : Nat → List Nat} {c : List Nat} {k : Nat} (hS : Sys l R) (hc : c.Nodup) (h1 : 1 ≤ k) (hk : k < c.length) {v w : Nat} (hw : c[k] = w) (hv : v ∈ c.take k) (hwv : w ∈ R v) {S big : List (Nat × Nat)} (h : Tree l R c k S big) : ∃ e big, (e = (v, w) ∨ e = (w, v)) ∧ Tree l R c (k + 1) (e :: S) big := by
  have hsp : c = c.take k ++ w :: c.drop (k + 1) := by rw [← hw, List.getElem_cons_drop, List.take_append_drop]
  have hvw := hS.sym hwv
  have hne := hS.ne hwv
  have hwn : w ∉ c.take k := fun hh => by
    rw [hsp, List.nodup_append] at hc
    exact hc.2.2 w hh w (.head _) rfl
  have hd : c.drop k = w :: c.drop (k + 1) := by rw [← hw, List.getElem_cons_drop]
  have ht : c.take (k + 1) = c.take k ++ [w] := by rw [List.take_add_one, List.getElem?_eq_getElem hk, hw]; rfl
  have hdec := h.dec
  rw [hd, List.map_cons] at hdec
  have hx : (v, w) ∈ big := (h.big _).2 (mem_darts.2 ⟨hv, hwv⟩)
  have hy : (w, v) ∈ vc R w := mem_vc.2 ⟨rfl, hvw⟩
  obtain ⟨a1, b1, e1⟩ := List.append_of_mem hx
  obtain ⟨a2, b2, e2⟩ := List.append_of_mem hy
  have hbig := h.big
  rw [e1, e2] at hdec
  have h2 := hdec.rot.order (List.Perm.swap _ _ _)
  have h3 := h2.rot.order (List.Perm.swap _ _ _)
  rw [List.cons_append, List.cons_append] at h3
  have h4 := h3.merge
  have hn1 : (v, w) ∉ S := fun hh => hwn (h.inl _ hh).2.2
  have hn2 : (w, v) ∉ S := fun hh => hwn (h.inl _ hh).2.1
  obtain ⟨e, he, hel⟩ : ∃ e : (Nat × Nat), (e = (v, w) ∨ e = (w, v)) ∧ e ∈ l := by
    rcases (hS.ed w v).1 hwv with h | h
    · exact ⟨_, .inl rfl, h⟩
    · exact ⟨_, .inr rfl, h⟩
  refine ⟨e, _, he, List.nodup_cons.2 ⟨?_, h.nd⟩, fun f hf => ?_, by simp [h.len], h4.congr fun d _ => (pS_cons (Ne.symm hne) hn1 hn2 he d).symm, fun d => ?_, fun f hf => ?_⟩
  · rcases he with rfl | rfl
    · exact hn1
    · exact hn2
  · rw [ht]
    rcases List.mem_cons.1 hf with rfl | hf
    · refine ⟨hel, ?_⟩
      rcases he with rfl | rfl <;> simp [hv]
    · obtain ⟨i1, i2, i3⟩ := h.inl f hf
      exact ⟨i1, List.mem_append.2 (.inl i2), List.mem_append.2 (.inl i3)⟩
  · have hb := h.big d
    have hv2 : d ∈ vc R w ↔ d ∈ a2 ++ (w, v) :: b2 := by rw [e2]
    rw [ht, dartsOf, List.flatMap_append, List.mem_append, ← dartsOf, ← hb, e1]
    simp only [List.flatMap_cons, List.flatMap_nil, List.append_nil, hv2, List.mem_append, List.mem_cons]
    constructor
    · rintro (h | (h | h) | h | h | h) <;> simp [h]
    · rintro ((h | h | h) | h | h | h) <;> simp [h]
  · have h5 := h.con f fun e he => hf e (.tail _ he)
    have h6 : f w = f v := by
      have := hf e (.head _)
      rcases he with rfl | rfl
      · exact this.symm
      · exact this
    have h7 : ∀ u ∈ c.take (k + 1), f u = f v := fun u hu => by
      rw [ht] at hu
      rcases List.mem_append.1 hu with hu | hu
      · exact h5 u hu v hv
      · obtain rfl : u = w := by simpa using hu
        exact h6
    exact fun u hu z hz => (h7 u hu).trans (h7 z hz).symm
/-- a tree of these edges alone -/
theorem tree_allQ {l : List (Nat × Nat)} {R Q : Nat → List Nat} {c : List Nat} (hS : Sys l R) (hQ : ∀ u v, u ∈ Q v → u ∈ R v) (hc : c.Nodup) (hg : Grow Q c) (hne : ∀ v ∈ c, R v ≠ []) (h1 : c ≠ []) : ∀ k, 1 ≤ k → k ≤ c.length → ∃ S big, Tree l R c k S big ∧ ∀ e ∈ S, e.2 ∈ Q e.1 ∨ e.1 ∈ Q e.2 := by
  intro k hk
  induction k with
  | zero => omega
  | succ k ih =>
    intro hk2
    by_cases h0 : k = 0
    · subst h0
      obtain ⟨S, big, h⟩ := tree_one hS hc hne h1
      have hl := h.len
      have : S = [] := List.eq_nil_of_length_eq_zero (by omega)
      exact ⟨S, big, h, by rw [this]; simp⟩
    · obtain ⟨S, big, h, h2⟩ := ih (by omega) (by omega)
      have hk' : k < c.length := by omega
      have hsp : c = c.take k ++ c[k] :: c.drop (k + 1) := by rw [List.getElem_cons_drop, List.take_append_drop]
      obtain ⟨v, hv, hwv⟩ := hg _ _ _ hsp (by
        intro e
        have := congrArg List.length e
        rw [List.length_take, List.length_nil] at this; omega)
      obtain ⟨e, big', he, hT⟩ := tree_step hS hc (by omega) hk' rfl hv (hQ _ _ hwv) h
      refine ⟨e :: S, big', hT, fun f hf => ?_⟩
      rcases List.mem_cons.1 hf with rfl | hf
      · rcases he with rfl | rfl
        · exact .inl hwv
        · exact .inr hwv
      · exact h2 f hf
theorem swp_swp {α : Type} [DecidableEq α] {p : α → α} {x y : α} (h : x ≠ y) (z : α) : swp (swp p x y) x y z = p z := by
  by_cases h1 : z = x
  · subst h1; rw [swp_x, swp_y h]
  · by_cases h2 : z = y
    · subst h2; rw [swp_y h, swp_x]
    · rw [swp_o h1 h2, swp_o h1 h2]
/-- both darts of an edge that is none of the tree's on one cycle: not in the plane -/
theorem loop_low {l : List (Nat × Nat)} {R Q : Nat → List Nat} {c : List Nat} {a b : Nat} (hS : Sys l R) (hQ : ∀ u v, u ∈ Q v → u ∈ R v ∧ (v, u) ≠ (a, b) ∧ (u, v) ≠ (a, b)) (hc : c.Nodup) (hcl : ∀ v ∈ c, ∀ u ∈ R v, u ∈ c) (hg : Grow Q c) (hne : ∀ v ∈ c, R v ≠ []) (he : (a, b) ∈ l) (ha : a ∈ c)
    {C : List (List (Nat × Nat))} (hC : Dec (nxt R) (dartsOf R c) C) {f : List (Nat × Nat)} (hf : f ∈ C) (h1 : (a, b) ∈ f) (h2 : (b, a) ∈ f) : C.length + c.length ≤ (l.filter fun e => decide (e.1 ∈ c)).length := by
  have hcne : c ≠ [] := fun e => by rw [e] at ha; simp at ha
  have hpos := List.length_pos_iff.2 hcne
  have hlt := hS.lt _ he
  dsimp only at hlt
  have hab : ((a, b) : Nat × Nat) ≠ (b, a) := fun h => by have := (Prod.mk.inj h).1; omega
  obtain ⟨S, big, hT, hSQ⟩ := tree_allQ hS (fun u v h => (hQ u v h).1) hc hg hne hcne c.length hpos (Nat.le_refl _)
  have hdec := hT.dec
  rw [List.drop_length, List.map_nil] at hdec
  have hin := hT.inl
  rw [List.take_length] at hin
  have hrev : ∀ e ∈ l, rev e ∉ S := fun e he h => by
    have h1 := hS.lt _ he
    have h2 := hS.lt _ (hin _ h).1
    simp [rev] at h2; omega
  have heS : (a, b) ∉ S := fun h => by
    rcases hSQ _ h with h | h
    · exact (hQ _ _ h).2.1 rfl
    · exact (hQ _ _ h).2.2 rfl
  obtain ⟨C', g, h3, h4⟩ := rest_all hS hcl hdec (l.filter fun e => decide (e.1 ∈ c) && !decide (e ∈ (a, b) :: S)) (hS.ndl.sublist List.filter_sublist) fun e he => by
    obtain ⟨i1, i2⟩ := List.mem_filter.1 he
    simp at i2
    exact ⟨i1, i2.2.2, hrev e i1, i2.1⟩
  have hlen : (l.filter fun e => decide (e.1 ∈ c) && !decide (e ∈ (a, b) :: S)).length + (S.length + 1) = (l.filter fun e => decide (e.1 ∈ c)).length := by
    have hp : ((l.filter fun e => decide (e.1 ∈ c) && !decide (e ∈ (a, b) :: S)) ++ ((a, b) :: S)).Perm (l.filter fun e => decide (e.1 ∈ c)) := by
      refine perm_of_nodup (List.nodup_append.2 ⟨hS.ndl.sublist List.filter_sublist, List.nodup_cons.2 ⟨heS, hT.nd⟩, fun a ha b hb e => ?_⟩) (hS.ndl.sublist List.filter_sublist) fun x => ?_
      · subst e
        have := (List.mem_filter.1 ha).2
        simp only [Bool.and_eq_true, decide_eq_true_eq, Bool.not_eq_true', decide_eq_false_iff_not] at this
        exact this.2 hb
      · simp only [List.mem_append, List.mem_filter, Bool.and_eq_true, decide_eq_true_eq, Bool.not_eq_true', decide_eq_false_iff_not]
        constructor
        · rintro (h | h)
          · exact ⟨h.1, h.2.1⟩
          · rcases List.mem_cons.1 h with rfl | h
            · exact ⟨he, ha⟩
            · exact ⟨(hin x h).1, (hin x h).2.1⟩
        · intro h
          by_cases hx : x ∈ (a, b) :: S
          · exact .inr hx
          · exact .inl ⟨h.1, h.2, hx⟩
    have := hp.length_eq
    rw [List.length_append, List.length_cons] at this
    exact this
  generalize hL : (l.filter fun e => decide (e.1 ∈ c) && !decide (e ∈ (a, b) :: S)) = L at *
  have hmL : ∀ e, e ∈ L ↔ e ∈ l ∧ e.1 ∈ c ∧ e ≠ (a, b) ∧ e ∉ S := fun e => by
    rw [← hL]; simp
  have n1 : (a, b) ∉ L ++ S := fun h => (List.mem_append.1 h).elim (fun h => ((hmL _).1 h).2.2.1 rfl) heS
  have n2 : (b, a) ∉ L ++ S := fun h => (List.mem_append.1 h).elim (fun h => by
    have := hS.lt _ ((hmL _).1 h).1
    simp at this; omega) (hrev (a, b) he)
  -- over all edges: the faces
  have hall : ∀ d ∈ dartsOf R c, swp (pS R (L ++ S)) (a, b) (b, a) d = nxt R d := fun d hd => by
    rw [← pS_cons (by omega) n1 n2 (.inl rfl) d]
    obtain ⟨j1, j2⟩ := mem_darts.1 hd
    rw [pS, if_pos]
    · rfl
    · have key : ∀ x : Nat × Nat, x ∈ l → x.1 ∈ c → x ∈ (a, b) :: (L ++ S) := fun x hx hxc => by
        by_cases h5 : x = (a, b)
        · exact h5 ▸ .head _
        · refine .tail _ (List.mem_append.2 ?_)
          by_cases h6 : x ∈ S
          · exact .inr h6
          · exact .inl ((hmL x).2 ⟨hx, hxc, h5, h6⟩)
      rcases (hS.ed _ _).1 j2 with h | h
      · exact .inl (key _ h j1)
      · exact .inr (key _ h (hcl _ j1 _ j2))
  have hda : (a, b) ∈ dartsOf R c := hC.perm.mem_iff.1 (List.mem_flatten.2 ⟨f, hf, h1⟩)
  -- split
  obtain ⟨r1, r2, rfl⟩ := List.append_of_mem hf
  have g1 := hC.order List.perm_middle
  obtain ⟨x1, x2, rfl⟩ := List.append_of_mem h1
  have g2 := g1.rot
  rw [List.cons_append] at g2
  have hbm : (b, a) ∈ x2 ++ x1 := by
    rcases List.mem_append.1 h2 with h | h
    · exact List.mem_append.2 (.inr h)
    · rcases List.mem_cons.1 h with h | h
      · exact absurd h.symm hab
      · exact List.mem_append.2 (.inl h)
  obtain ⟨y1, y2, e2⟩ := List.append_of_mem hbm
  rw [e2] at g2
  have g3 := g2.split
  have g4 := g3.congr (q := pS R (L ++ S)) fun d hd => by
    have e3 : swp (nxt R) (a, b) (b, a) d = swp (swp (pS R (L ++ S)) (a, b) (b, a)) (a, b) (b, a) d := by
      have hdb : (b, a) ∈ dartsOf R c := hC.perm.mem_iff.1 (List.mem_flatten.2 ⟨_, by simp, h2⟩)
      simp only [swp]
      have q1 := hall _ hda
      have q2 := hall _ hdb
      have q3 := hall _ hd
      simp only [swp] at q1 q2 q3
      simp only [q1, q2, q3]
    rw [e3, swp_swp hab]
  have g5 := g4.count h3
  have := hT.len
  simp only [List.length_cons, List.length_nil, List.length_append] at g5 h4 ⊢
  omega
end Fil
end
section
set_option linter.unusedVariables false
namespace Fil
section
variable {n : Int} {es : List E} {R : List (List Nat)} {o lab : Nat → Nat} {os labs : Nat → Nat → Nat}
theorem lab_eq_less (hR : RightG n es) (hL : Lev n.toNat (nb (tn es)) o lab) {i : Nat} {oi li : Nat → Nat} (hLi : Lev n.toNat (nb (tn (lessL [(i : Int)] es))) oi li) {a b : Nat} (h : Joins es i a b) (heq : li a = li b) : ∀ v, v < n.toNat → lab v = li v := fun v hv => by
  have h1 := hL.conn v hv li fun w hw u hu => by
    obtain ⟨j, hj⟩ := (near_joins hR).1 hu
    by_cases hji : j = i
    · subst hji
      obtain ⟨e, e1, e2⟩ := h
      obtain ⟨f, f1, f2⟩ := hj
      rw [e1] at f1
      obtain rfl : e = f := by simpa using f1
      rcases e2 with ⟨rfl, rfl⟩ | ⟨rfl, rfl⟩ <;> rcases f2 with ⟨rfl, rfl⟩ | ⟨rfl, rfl⟩ <;> simp_all
    · exact (hLi.edge w hw u ((less_joins hR).2 ⟨j, hji, hj⟩)).1
  have h2 := hLi.conn v hv lab fun w hw u hu => by
    obtain ⟨j, _, hj⟩ := (less_joins hR).1 hu
    exact (hL.edge w hw u ((near_joins hR).2 ⟨j, hj⟩)).1
  have l1 := hL.le v hv
  have l2 := hLi.le v hv
  have l3 := hL.le (li v) (by omega)
  have l4 := hLi.le (lab v) (by omega)
  omega
theorem bridge_more (hR : RightG n es) (hL : Lev n.toNat (nb (tn es)) o lab) {i : Nat} {oi li : Nat → Nat} (hLi : Lev n.toNat (nb (tn (lessL [(i : Int)] es))) oi li) {a b : Nat} (h : Joins es i a b) (hne : li a ≠ li b) : (compsS n.toNat lab).length < (compsS n.toNat li).length := by
  obtain ⟨ha, hb, hab⟩ := h.lt hR
  have hlab : lab a = lab b := (hL.edge b hb a ((near_joins hR).2 ⟨i, h⟩)).1
  have hli : ∀ v, v < n.toNat → lab (li v) = lab v := fun v hv => (hLi.conn v hv lab fun w hw u hu => by
    obtain ⟨j, _, hj⟩ := (less_joins hR).1 hu
    exact (hL.edge w hw u ((near_joins hR).2 ⟨j, hj⟩)).1).symm
  simp only [compsS, compsI, List.length_map]
  have hsub : (List.range n.toNat).filter (fun v => lab v == v) = ((List.range n.toNat).filter fun v => li v == v).filter fun v => lab v == v := by
    rw [List.filter_filter]
    refine List.filter_congr fun v hv => ?_
    have hv := List.mem_range.1 hv
    by_cases e : lab v = v
    · have h1 := hLi.le v hv
      have h2 := hL.le (li v) (by omega)
      have h3 := hli v hv
      have : li v = v := by omega
      simp [e, this]
    · simp [e]
  rw [hsub, List.length_filter_lt_length_iff_exists]
  have key : ∀ x, x < n.toNat → li x ≠ lab x → ∃ y ∈ (List.range n.toNat).filter (fun v => li v == v), ¬(lab y == y) = true := fun x hx h => by
    have h1 := hLi.le x hx
    have h2 := hLi.idem x hx
    have h3 := hli x hx
    refine ⟨li x, List.mem_filter.2 ⟨List.mem_range.2 (by omega), by simpa using h2⟩, ?_⟩
    simp; omega
  by_cases h1 : li a = lab a
  · exact key b hb (by omega)
  · exact key a ha h1
theorem st_const {p : (Nat × Nat) → Nat × Nat} {f : Nat → Nat} : ∀ {l : List (Nat × Nat)} {s t : Nat × Nat}, st p l s t → (∀ z ∈ l, f (p z).1 = f z.1) → f s.1 = f t.1
  | [], s, t, h, _ => by cases h; rfl
  | a :: l, s, t, ⟨h1, h2⟩, h => by
    subst h1
    exact (h s (.head _)).symm.trans (st_const h2 fun z hz => h z (.tail _ hz))
theorem bridge_face (hR : RightG n es) (h : RotL n.toNat (tn es) R) (hL : Lev n.toNat (nb (tn es)) o lab) (hLs : ∀ i : Nat, Lev n.toNat (nb (tn (lessL [(i : Int)] es))) (os i) (labs i)) (hP : ∀ c ∈ compsS n.toNat lab, eulerK (tn es) (facesR n.toNat (tn es) R) c = 2) {i : Nat} {e : E} (he : es[i]? = some e) :
    (sidesE (facesR n.toNat (tn es) R) e).1 = (sidesE (facesR n.toNat (tn es) R) e).2 ↔ (compsS n.toNat lab).length < (compsS n.toNat (labs i)).length := by
  have hJ : Joins es i e.1.toNat e.2.1.toNat := ⟨e, he, .inl ⟨rfl, rfl⟩⟩
  have hm : (e.1.toNat, e.2.1.toNat) ∈ tn es := List.mem_map.2 ⟨e, List.mem_of_getElem? he, rfl⟩
  have hlt := hR.good.lt _ hm
  have hS := h.sys hR
  have hd := facesR_dec hR h
  have hm1 : e.2.1.toNat ∈ rf R e.1.toNat := (hS.ed _ _).2 (.inl hm)
  have hd1 : (e.1.toNat, e.2.1.toNat) ∈ (facesR n.toNat (tn es) R).flatten := hd.perm.mem_iff.2 ((dart_in hR h).2 hm1)
  have hd2 : (e.2.1.toNat, e.1.toNat) ∈ (facesR n.toNat (tn es) R).flatten := hd.perm.mem_iff.2 ((dart_in hR h).2 (hS.sym hm1))
  have hfn := hd.perm.nodup_iff.2 hd.nd
  obtain ⟨f, hf1, hf2⟩ := faceOf_spec hd1
  obtain ⟨f', hf1', hf2'⟩ := faceOf_spec hd2
  simp only [sidesE]
  dsimp only at hlt
  generalize hu : e.1.toNat = u at *
  generalize hv : e.2.1.toNat = v at *
  have hfm := List.mem_of_getElem? hf1
  have hdm : ∀ d ∈ f, d.2 ∈ rf R d.1 := fun d hdf => (dart_in hR h).1 (hd.perm.mem_iff.1 (List.mem_flatten.2 ⟨f, hfm, hdf⟩))
  constructor
  · intro hsame
    refine Decidable.byContradiction fun hnb => ?_
    have heq : labs i u = labs i v := Decidable.byContradiction fun hne => hnb (bridge_more hR hL (hLs i) hJ hne)
    have hlab := lab_eq_less hR hL (hLs i) hJ heq
    have hcs := compsS_congr hlab
    rw [hsame, hf1'] at hf1
    obtain rfl := Option.some.inj hf1
    have hR2 := hR.sub (lessL_sub [(i : Int)] es)
    obtain ⟨k, c, hck, huc, hcu⟩ := comp_one hL (v := u) (by omega)
    have hc := List.mem_of_getElem? hck
    obtain ⟨c', hp, hg⟩ := comp_grow hR2 (near_rot hR2) (hLs i) (hcs ▸ hc)
    have hQ : ∀ a b, a ∈ rf ((List.range n.toNat).map (nearS (tn (lessL [(i : Int)] es)))) b → a ∈ rf R b ∧ (b, a) ≠ (u, v) ∧ (a, b) ≠ (u, v) := fun a b hab => by
      obtain ⟨j, hji, hj⟩ := (less_joins hR).1 (((near_rot hR2).mem hR2).1 hab)
      have hno : ∀ x y, Joins es j x y → (x, y) ≠ (u, v) := fun x y hxy e' => by
        obtain ⟨rfl, rfl⟩ := Prod.mk.inj e'
        obtain ⟨e2, h1, h2⟩ := hxy
        obtain ⟨o1, o2, o3, o4, _⟩ := hR.ok e2 (List.mem_of_getElem? h1)
        obtain ⟨q1, q2, q3, q4, _⟩ := hR.ok e (List.mem_of_getElem? he)
        have : (e.1.toNat, e.2.1.toNat) = (e2.1.toNat, e2.2.1.toNat) := by
          rw [hu, hv]
          rcases h2 with ⟨h2, h3⟩ | ⟨h2, h3⟩
          · rw [h2, h3]
          · omega
        have hnd := tn_nodup hR
        have t1 : (tn es)[i]? = some (e.1.toNat, e.2.1.toNat) := by rw [tn, List.getElem?_map, he]; rfl
        have t2 : (tn es)[j]? = some (e2.1.toNat, e2.2.1.toNat) := by rw [tn, List.getElem?_map, h1]; rfl
        rw [← this] at t2
        exact hji ((List.getElem?_inj (List.getElem?_eq_some_iff.1 t2).1 hnd).1 (t2.trans t1.symm))
      exact ⟨(h.mem hR).2 ((near_joins hR).2 ⟨j, hj⟩), hno _ _ hj.symm, hno _ _ hj⟩
    have hvc : v ∈ c := comp_shut hR h hL hc u huc v hm1
    have hpl := hp.length_eq
    have hg2 : Grow (rf R) c' := fun A w B e' hA => (hg A w B e' hA).imp fun x hx => ⟨hx.1, (hQ _ _ hx.2).1⟩
    have h2c : 2 ≤ c.length := by
      have : [u, v].length ≤ c.length := sub_length (by simp; omega) fun x hx => by
        simp only [List.mem_cons, List.not_mem_nil, or_false] at hx
        rcases hx with rfl | rfl
        · exact huc
        · exact hvc
      simpa using this
    have hcc := comp_count hR h hL hd hc
    have hcc' := hcc.to (darts_perm hp.symm)
    obtain ⟨g, hgC, hug⟩ := List.mem_flatten.1 (hcc'.perm.mem_iff.2 (mem_darts (d := (u, v)) |>.2 ⟨hp.mem_iff.2 huc, hm1⟩))
    obtain ⟨z, hz⟩ := List.getElem?_of_mem (List.mem_filter.1 hgC).1
    have hz2 := faceOf_uniq hfn hz hug
    have hz3 : g = f' := by
      rw [← hz2, hsame, hf1'] at hz
      exact (Option.some.inj hz).symm
    subst hz3
    have hlow := loop_low hS hQ (hp.nodup_iff.2 (comp_nodup hc)) (fun x hx y hy => hp.mem_iff.2 (comp_shut hR h hL hc x (hp.mem_iff.1 hx) y hy)) hg (grow_ne hS hg2 (by omega)) hm (hp.mem_iff.2 huc) hcc' hgC hug hf2'
    have e2 : ((tn es).filter fun e => decide (e.1 ∈ c')) = (tn es).filter fun e => decide (e.1 ∈ c) := List.filter_congr fun e _ => decide_eq_decide.2 hp.mem_iff
    rw [e2] at hlow
    have := hP c hc
    rw [eulerK, if_neg (by omega)] at this
    omega
  · intro hB
    refine Decidable.byContradiction fun hne => bridge_ne hR hL hLs hB hJ ?_
    have hnot : (v, u) ∉ f := fun hvf => hne (by
      rw [faceOf_uniq hfn hf1 hvf])
    have hcy := hd.cy f hfm
    have hfnd : f.Nodup := by
      obtain ⟨r1, r2, e'⟩ := List.append_of_mem hfm
      rw [e', List.flatten_append, List.flatten_cons] at hfn
      exact (List.nodup_append.1 (List.nodup_append.1 hfn).2.1).1
    obtain ⟨x1, x2, rfl⟩ := List.append_of_mem hf2
    have hc2 := hcy.rot
    rw [List.cons_append, Cy.cons] at hc2
    have hcon := st_const (f := labs i) hc2 fun z hz => ?_
    · exact hcon.symm
    · have hzf : z ∈ x1 ++ (u, v) :: x2 := by
        rcases List.mem_append.1 hz with hz | hz
        · exact List.mem_append.2 (.inr (.tail _ hz))
        · exact List.mem_append.2 (.inl hz)
      have hz1 : z ≠ (u, v) := fun e' => by
        subst e'
        have := hfnd
        rw [List.nodup_append, List.nodup_cons] at this
        rcases List.mem_append.1 hz with hz | hz
        · exact this.2.1.1 hz
        · exact this.2.2 _ hz _ (.head _) rfl
      have hz2 : z ≠ (v, u) := fun e' => hnot (e' ▸ hzf)
      have hzn := hdm z hzf
      obtain ⟨j, hj⟩ := (near_joins hR).1 ((h.mem hR).1 hzn)
      have hji : j ≠ i := fun e' => by
        subst e'
        obtain ⟨e2, h1, h2⟩ := hj
        rw [he] at h1
        obtain rfl := Option.some.inj h1
        rw [hu, hv] at h2
        rcases h2 with ⟨h2, h3⟩ | ⟨h2, h3⟩
        · exact hz2 (Prod.ext h3.symm h2.symm)
        · exact hz1 (Prod.ext h2.symm h3.symm)
      have := ((hLs i).edge z.1 ((h.lt hR hzn).2) z.2 ((less_joins hR).2 ⟨j, hji, hj⟩)).1
      exact this
end
/-- of each face: how many of these darts are on it -/
def manyL (F : List (List (Nat × Nat))) (P : List (Nat × Nat)) : List Nat := (List.range F.length).map fun k => (P.filter fun d => faceOf F d == k).length
theorem manyL_length (F : List (List (Nat × Nat))) (P : List (Nat × Nat)) : (manyL F P).length = F.length := by simp [manyL]
theorem manyL_get {F : List (List (Nat × Nat))} {P : List (Nat × Nat)} {k : Nat} (hk : k < F.length) : (manyL F P)[k]? = some (P.filter fun d => faceOf F d == k).length := by
  rw [manyL, List.getElem?_map, List.getElem?_range hk]; rfl
theorem manyL_nil (F : List (List (Nat × Nat))) : manyL F [] = List.replicate F.length 0 := by
  apply List.ext_getElem?
  intro j
  by_cases hj : j < F.length
  · rw [manyL_get hj, List.getElem?_replicate, if_pos hj]; rfl
  · rw [List.getElem?_eq_none (by rw [manyL_length]; omega), List.getElem?_eq_none (by simp; omega)]
theorem manyL_snoc {F : List (List (Nat × Nat))} {P : List (Nat × Nat)} {d : Nat × Nat} (hd : faceOf F d < F.length) : (manyL F P).set (faceOf F d) ((P.filter fun e => faceOf F e == faceOf F d).length + 1) = manyL F (P ++ [d]) := by
  apply List.ext_getElem?
  intro j
  rw [List.getElem?_set]
  by_cases h : faceOf F d = j
  · subst h
    rw [if_pos rfl, if_pos (by rw [manyL_length]; exact hd), manyL_get hd, List.filter_append, List.length_append]
    simp
  · rw [if_neg h]
    by_cases hj : j < F.length
    · rw [manyL_get hj, manyL_get hj, List.filter_append]
      have h1 : (faceOf F d == j) = false := by simpa using h
      simp [h1]
    · rw [List.getElem?_eq_none (by rw [manyL_length]; omega), List.getElem?_eq_none (by rw [manyL_length]; omega)]
theorem many_all {F : List (List (Nat × Nat))} {P : List (Nat × Nat)} (hn : F.flatten.Nodup) (hp : F.flatten.Perm P) : manyL F P = F.map List.length := by
  apply List.ext_getElem?
  intro k
  by_cases hk : k < F.length
  · rw [manyL_get hk, List.getElem?_map, List.getElem?_eq_getElem hk, Option.map_some]
    refine congrArg some ?_
    rw [← (hp.filter _).length_eq]
    refine List.Perm.length_eq (perm_of_nodup (hn.sublist List.filter_sublist) ?_ fun d => ?_)
    · have hm := List.getElem_mem hk
      obtain ⟨r1, r2, e'⟩ := List.append_of_mem hm
      rw [e', List.flatten_append, List.flatten_cons] at hn
      exact (List.nodup_append.1 (List.nodup_append.1 hn).2.1).1
    · rw [List.mem_filter]
      constructor
      · rintro ⟨h1, h2⟩
        obtain ⟨f, h3, h4⟩ := faceOf_spec h1
        have h5 : faceOf F d = k := by simpa using h2
        rw [h5, List.getElem?_eq_getElem hk] at h3
        exact Option.some.inj h3 ▸ h4
      · intro h
        have := faceOf_uniq hn (List.getElem?_eq_getElem hk) h
        exact ⟨List.mem_flatten.2 ⟨_, List.getElem_mem hk, h⟩, by simpa using this⟩
  · rw [List.getElem?_eq_none (by rw [manyL_length]; omega), List.getElem?_eq_none (by simp; omega)]
/-- the two darts of edge k -/
def dartQ (e : E) (q : Nat) : Nat × Nat := if q = 0 then (e.1.toNat, e.2.1.toNat) else (e.2.1.toNat, e.1.toNat)
theorem take_darts {es : List E} {k : Nat} {e : E} (h : es[k]? = some e) : dartsE ((tn es).take (k + 1)) = (dartsE ((tn es).take k) ++ [dartQ e 0]) ++ [dartQ e 1] := by
  have : (tn es)[k]? = some (e.1.toNat, e.2.1.toNat) := by rw [tn, List.getElem?_map, h]; rfl
  rw [List.take_add_one, this, Option.toList_some, dartsE_snoc, List.append_assoc]; rfl
end Fil
end
section
set_option linter.unusedVariables false
namespace Go.Proofs.Ytpajjnkmaebhcaa
open Go Go.RowKit Go.Sl Fil
set_option maxRecDepth 100000
set_option maxHeartbeats 8000000
set_option linter.unusedVariables false
set_option linter.unusedSimpArgs false
attribute [local irreducible] Code.wp wpList bodyPost wpQuiet Exit.then Exit.inBlock Post wpAnyH wpOp
theorem FacesBridges_ok (n : Int) (v : Value) (es : List E) (vr : Value) (hr0 : List Value) (ls : List (List Int)) (w : World) (hs : Shp v es.length) (hr : RO w No v (esV es)) (hR : ROsI w No vr hr0 ls) (hlen : ∀ l ∈ ls, l.length ≤ 17592186044416) :
    Calls Try.prog 10 #[.agg #[.int .i64 n, v], vr] w (Post w No (Just (.bool true))) := by
  refine enter0 (vs := [_, _]) Try.func10 rfl Try.ntmps10 rfl ?_
  repeat' first
    | refine k_then ?_
    | refine c_seq ?_
    | refine c_region ?_
    | refine s_nil ?_
    | refine s_move (by exact rfl) (by exact rfl) ?_
    | refine s_assign (by exact rfl) (by exact rfl) ?_
    | refine s_ldk_box (by exact rfl) (by exact rfl) (by exact .head _) (by exact rfl) (by exact rfl) ?_
    | refine o_box (by exact rfl) (by exact rfl) (fun b => ?_)
    | fail
  refine s_call (by exact rfl) (by exact rfl) (fun w h => Light7_ok n v es.length vr hr0 ls 30 w hs (rosI_old h hR) hlen (by omega)) ?_
  cases hl : light7 n es.length ls 30
  · repeat' first
      | refine k_then ?_
      | refine c_seq ?_
      | refine c_region ?_
      | refine s_nil ?_
      | refine s_move (by exact rfl) (by exact rfl) ?_
      | refine s_not (by exact rfl) (by exact rfl) ?_
      | refine s_pick_t (by exact rfl) (by exact rfl) (by exact rfl) ?_
      | refine c_cond_t (by exact rfl) ?_
      | refine g_skip (by exact rfl) (by exact rfl) (by exact rfl) (by exact rfl) ?_
      | fail
    refine s_call (vs := []) (by exact rfl) (by exact rfl) (fun w h => alive10_ok w) ?_
    repeat' first
      | refine k_then ?_
      | refine s_nil ?_
      | refine s_assign (by exact rfl) (by exact rfl) ?_
      | refine c_ret ?_
      | refine k_then_ret ?_
      | fail
    refine ret1 [] rfl rfl (by exact rfl) ⟨rfl, rfl⟩
  obtain ⟨l1, l2, l3, l4⟩ := light7_t hl
  have hle : ∀ l ∈ ls, l.length ≤ 1048576 := fun l hl => by have := l4 l hl; omega
  by_cases hk : rotK n es ls = 0
  case neg =>
    repeat' first
      | refine s_move (by exact rfl) (by exact rfl) ?_
      | refine s_not (by exact rfl) (by exact rfl) ?_
      | refine w_move (by exact rfl) (by exact rfl) (by exact rfl) (by exact rfl) ?_
      | refine w_ldk_box (by exact rfl) (by exact rfl) (by exact rfl) (by exact rfl) (by exact .head _) (by exact rfl) (by exact rfl) ?_
      | refine g_on (by exact rfl) (by exact rfl) ?_
      | fail
    refine s_call (by exact rfl) (by exact rfl) (fun w h => refPlane_no n v es vr hr0 ls w hs (ro_old h hr) (by omega) (rosI_old h hR) hk) ?_
    repeat' first
      | refine k_then ?_
      | refine c_seq ?_
      | refine c_region ?_
      | refine s_nil ?_
      | refine s_pick_f (by exact rfl) (by exact rfl) (by exact rfl) ?_
      | (refine c_cond_p (by exact rfl) (fun h => ?_) (fun h => ?_) <;> try (exfalso; omega))
      | refine w_neq (by exact rfl) (by exact rfl) (by exact rfl) (by exact rfl) (by exact rfl) ?_
      | fail
    refine s_call (vs := []) (by exact rfl) (by exact rfl) (fun w h => alive10_ok w) ?_
    repeat' first
      | refine k_then ?_
      | refine s_nil ?_
      | refine s_assign (by exact rfl) (by exact rfl) ?_
      | refine c_ret ?_
      | refine k_then_ret ?_
      | fail
    refine ret1 [] rfl rfl (by exact rfl) ⟨rfl, rfl⟩
  obtain ⟨hG, R, rfl, hRot⟩ := rot_sys hk
  have hRs := hR.nat
  obtain ⟨o, lab, hL⟩ := lev_ex w hG
  obtain ⟨os, hLs⟩ : ∃ os : Nat → (Nat → Nat) × (Nat → Nat), ∀ i : Nat, Lev n.toNat (nb (tn (lessL [(i : Int)] es))) (os i).1 (os i).2 :=
    ⟨fun i => ⟨(lev_ex w (hG.sub (lessL_sub [(i : Int)] es))).choose, (lev_ex w (hG.sub (lessL_sub [(i : Int)] es))).choose_spec.choose⟩, fun i => (lev_ex w (hG.sub (lessL_sub [(i : Int)] es))).choose_spec.choose_spec⟩
  repeat' first
    | refine s_move (by exact rfl) (by exact rfl) ?_
    | refine s_not (by exact rfl) (by exact rfl) ?_
    | refine w_move (by exact rfl) (by exact rfl) (by exact rfl) (by exact rfl) ?_
    | refine w_ldk_box (by exact rfl) (by exact rfl) (by exact rfl) (by exact rfl) (by exact .head _) (by exact rfl) (by exact rfl) ?_
    | refine g_on (by exact rfl) (by exact rfl) ?_
    | fail
  refine s_call (by exact rfl) (by exact rfl) (fun w h => refPlane_ok n v es vr hr0 R o lab w hs (ro_old h hr) hG (ros_old h hRs) hRot hL) ?_
  by_cases hp : planeR n.toNat (tn es) lab R = 0
  case neg =>
    repeat' first
      | refine k_then ?_
      | refine c_seq ?_
      | refine c_region ?_
      | refine s_nil ?_
      | refine s_pick_f (by exact rfl) (by exact rfl) (by exact rfl) ?_
      | (refine c_cond_p (by exact rfl) (fun h => ?_) (fun h => ?_) <;> try (exfalso; omega))
      | refine w_neq (by exact rfl) (by exact rfl) (by exact rfl) (by exact rfl) (by exact rfl) ?_
      | fail
    refine s_call (vs := []) (by exact rfl) (by exact rfl) (fun w h => alive10_ok w) ?_
    repeat' first
      | refine k_then ?_
      | refine s_nil ?_
      | refine s_assign (by exact rfl) (by exact rfl) ?_
      | refine c_ret ?_
      | refine k_then_ret ?_
      | fail
    refine ret1 [] rfl rfl (by exact rfl) ⟨rfl, rfl⟩
  rw [hp]
  repeat' first
    | refine k_then ?_
    | refine c_seq ?_
    | refine c_region ?_
    | refine s_nil ?_
    | refine s_move (by exact rfl) (by exact rfl) ?_
    | refine s_pick_f (by exact rfl) (by exact rfl) (by exact rfl) ?_
    | refine s_ldk_box (by exact rfl) (by exact rfl) (by exact .head _) (by exact rfl) (by exact rfl) ?_
    | refine c_skip ?_
    | (refine c_cond_p (by exact rfl) (fun h => ?_) (fun h => ?_) <;> try (exfalso; omega))
    | refine w_neq (by exact rfl) (by exact rfl) (by exact rfl) (by exact rfl) (by exact rfl) ?_
    | fail
  revert b; intro bg
  refine o_call (by exact rfl) (by exact rfl) (fun w h => Sides_ok n v es vr hr0 R w hs (ro_old h hr) hG (ros_old h hRs) hRot (hp ▸ planeIs_ok hs (ro_old h hr) hG (ros_old h hRs) hRot hL)) ?_
  rintro _ _ ⟨vs, rfl, rfl⟩
  refine know_row (v := vs) (by exact .head _) fun hvs _ => ?_
  repeat' first
    | refine k_then ?_
    | refine c_seq ?_
    | refine c_region ?_
    | refine s_nil ?_
    | refine s_move (by exact rfl) (by exact rfl) ?_
    | refine s_assign (by exact rfl) (by exact rfl) ?_
    | refine s_extract (by exact rfl) (by exact rfl) (by exact rfl) ?_
    | refine s_ldk_box (by exact rfl) (by exact rfl) (by exact .tail _ (.head _)) (by exact rfl) (by exact rfl) ?_
    | fail
  refine o_call (by exact rfl) (by exact rfl) (fun w h => Lengths_ok n v es vr hr0 R w hs (ro_old h hr) hG (ros_old h hRs) hRot (hp ▸ planeIs_ok hs (ro_old h hr) hG (ros_old h hRs) hRot hL)) ?_
  rintro _ _ ⟨vn, rfl, rfl⟩
  refine know_row (v := vn) (by exact .head _) fun hvn _ => ?_
  repeat' first
    | refine k_then ?_
    | refine c_seq ?_
    | refine c_region ?_
    | refine s_nil ?_
    | refine s_move (by exact rfl) (by exact rfl) ?_
    | refine s_assign (by exact rfl) (by exact rfl) ?_
    | refine s_neq (by exact rfl) (by exact rfl) (by exact rfl) ?_
    | refine s_extract (by exact rfl) (by exact rfl) (by exact rfl) ?_
    | refine s_pick_f (by exact rfl) (by exact rfl) (by exact rfl) ?_
    | refine s_ldk_box (by exact rfl) (by exact rfl) (by exact .tail _ (.tail _ (.head _))) (by exact rfl) (by exact rfl) ?_
    | refine c_skip ?_
    | (refine c_cond_p (by exact rfl) (fun h => ?_) (fun h => ?_) <;> try (exfalso; omega))
    | (refine g_case (by exact rfl) (by exact rfl) (fun h => ?_) (fun h => ?_) <;> try (exfalso; omega))
    | refine w_move (by exact rfl) (by exact rfl) (by exact rfl) (by exact rfl) ?_
    | refine w_fa (by exact rfl) (by exact rfl) (by exact rfl) (by exact rfl) ?_
    | refine w_ld_box (by exact rfl) (by exact rfl) (by exact rfl) (by exact rfl) (by exact .tail _ (.tail _ (.head _))) (by exact rfl) ?_
    | refine w_neq (by exact rfl) (by exact rfl) (by exact rfl) (by exact rfl) (by exact rfl) ?_
    | refine w_len (by exact rfl) (by exact rfl) (by exact rfl) (by exact rfl) (by assumption) ?_
    | fail
  refine o_call (by exact rfl) (by exact rfl) (fun w h => Bridges_ok n v es lab (fun i => (os i).2) o (fun i => (os i).1) w hs (ro_old h hr) hG hL hLs) ?_
  rintro vb _ ⟨out, hout, rfl⟩
  refine know_row (v := vb) (by exact .head _) fun hvb _ => ?_
  have hbf : ∀ {i : Nat} {e : E}, es[i]? = some e → ((sidesE (facesR n.toNat (tn es) R) e).1 = (sidesE (facesR n.toNat (tn es) R) e).2 ↔ i ∈ out) := fun {i e} he => by
    rw [bridge_face (os := fun i => (os i).1) (labs := fun i => (os i).2) hG hRot hL hLs (planeR_two hp) he, hout, List.mem_filter]
    have := (List.getElem?_eq_some_iff.1 he).1
    simp [this]
  have hdec := facesR_dec hG hRot
  have hfl : ∀ {k : Nat} {e : E}, es[k]? = some e → ∀ q, faceOf (facesR n.toNat (tn es) R) (dartQ e q) < (facesR n.toNat (tn es) R).length := fun {k e} he q => by
    have h1 : (e.1.toNat, e.2.1.toNat) ∈ tn es := List.mem_map.2 ⟨e, List.mem_of_getElem? he, rfl⟩
    have h2 : dartQ e q ∈ (facesR n.toNat (tn es) R).flatten := hdec.perm.mem_iff.2 (by
      rw [mem_dartsAll hG, dartQ]
      split
      · exact .inl h1
      · exact .inr h1)
    obtain ⟨f, hf, _⟩ := faceOf_spec h2
    exact (List.getElem?_eq_some_iff.1 hf).1
  have hall : manyL (facesR n.toNat (tn es) R) (dartsE (tn es)) = (facesR n.toNat (tn es) R).map List.length := many_all (hdec.perm.nodup_iff.2 hdec.nd) (hdec.perm.trans (by
    rw [← darts_sorted hG]; exact List.mergeSort_perm _ _))
  have hFl : (facesR n.toNat (tn es) R).length ≤ 2 * es.length := by
    have h1 := flat_le (C := facesR n.toNat (tn es) R) fun f hf => (hdec.cy f hf).1
    have h2 := hdec.perm.length_eq
    rw [dartsAll_length hG] at h2
    omega
  generalize facesR n.toNat (tn es) R = Fs at *
  repeat' first
    | refine k_then ?_
    | refine c_seq ?_
    | refine c_region ?_
    | refine s_nil ?_
    | refine s_move (by exact rfl) (by exact rfl) ?_
    | refine s_assign (by exact rfl) (by exact rfl) ?_
    | refine s_len (by exact rfl) (by exact rfl) (by assumption) ?_
    | fail
  refine o_make (by exact rfl) (by exact rfl) (by exact rfl) (by omega) (by omega) fun va hva => ?_
  repeat' first
    | refine k_then ?_
    | refine c_seq ?_
    | refine c_region ?_
    | refine s_nil ?_
    | refine s_assign (by exact rfl) (by exact rfl) ?_
    | refine c_block ?_
    | fail
  have hpl : ∀ k, k ≤ es.length → (dartsE ((tn es).take k)).length ≤ 2 * es.length := fun k hk => by
    rw [dartsE_length, List.length_take, tn_len]; omega
  refine c_loop (fun k : Nat => k ≤ es.length) (fun k => [(2, .pointer (some ⟨bg, 0, none⟩)), (5, vs), (7, vn), (9, vb), (10, va), (11, .int .i64 (k : Int))])
    (fun k => [rowHP va 3 1 Fs.length (nV (manyL Fs (dartsE ((tn es).take k)))), rowHP vb 3 1 out.length (nV out), rowHP vn 3 1 Fs.length (nV (Fs.map List.length)), rowHP vs 58 2 es.length (dsV (sidesL Fs es)), boxHP bg 24 [.int .i64 n, v]])
    (fun k => es.length - k) 0 [0, 0, 0, 0, 0] (Nat.zero_le _) ?_ ⟨rfl, rfl, rfl, rfl, rfl, rfl, trivial⟩ ?_
  · have z1 : (madeCells (Value.int .i64 0).cells ((Fs.length : Int).toNat * 1)).toList = nV (manyL Fs (dartsE ((tn es).take 0))) := by
      rw [made1 rfl, List.take_zero, show dartsE [] = [] from rfl, manyL_nil]; simp [nV]
    rw [z1]
    exact rfl
  rintro k hk
  by_cases hkl : k < es.length
  · obtain ⟨e, he⟩ : ∃ e, es[k]? = some e := ⟨_, List.getElem?_eq_getElem hkl⟩
    obtain ⟨hd1, hd2⟩ := dsV_get (sidesL_at (F := Fs) he)
    have hd0 : (dsV (sidesL Fs es))[k * 2 + 0]? = some (.int .i64 ((sidesE Fs e).1 : Int)) := hd1
    have hpos : 0 < es.length := by omega
    have hst : decide (((sidesE Fs e).1 : Int) = ((sidesE Fs e).2 : Int)) = decide (k ∈ out) := decide_eq_decide.2 ((by omega : ((sidesE Fs e).1 : Int) = ((sidesE Fs e).2 : Int) ↔ (sidesE Fs e).1 = (sidesE Fs e).2).trans (hbf he))
    have hfe := hfl he
    have htd := take_darts he
    have hpk := hpl k hk
    repeat' first
      | refine k_then ?_
      | refine c_seq ?_
      | refine c_region ?_
      | refine s_nil ?_
      | refine s_move (by exact rfl) (by exact rfl) ?_
      | refine s_lss (by exact rfl) (by exact rfl) (by exact rfl) ?_
      | refine s_len (by exact rfl) (by exact rfl) (by assumption) ?_
      | refine c_block ?_
      | refine c_skip ?_
      | (refine c_cond_p (by exact rfl) (fun h => ?_) (fun h => ?_) <;> try (exfalso; omega))
      | fail
    refine p_begin0 [(0, true), (1, true), (2, true), (3, true), (4, true), (5, true), (6, true), (7, true), (8, true), (9, true), (10, true), (11, true), (12, true), (13, false), (14, true)] (by kernel_rfl) ?_
    repeat' first
      | (refine p_at (by exact rfl) ?_
         first
          | refine t_move (by exact rfl) (by exact rfl) (by exact fun _ h => h) ?_
          | refine t_idx (by exact rfl) (by exact rfl) (by exact rfl) (by assumption) (by first | assumption | omega) (by exact fun _ h => h) ?_
          | fail)
      | fail
    refine p_at (by exact rfl) ?_
    refine t_iap 0 (by exact rfl) (by exact rfl) (by exact rfl) (by omega) (by omega) hvs hpos (by exact fun _ h => h) ?_
    repeat' first
      | (refine p_at (by exact rfl) ?_
         first
          | refine t_move (by exact rfl) (by exact rfl) (by exact fun _ h => h) ?_
          | refine t_idx (by exact rfl) (by exact rfl) (by exact rfl) (by assumption) (by first | assumption | omega) (by exact fun _ h => h) ?_
          | refine t_ld_row (by exact rfl) (by exact rfl) (by exact .tail _ (.tail _ (.tail _ (.head _)))) (by assumption) (by exact fun _ h => h) ?_
          | fail)
      | fail
    refine p_at (by exact rfl) ?_
    refine t_iap 1 (by exact rfl) (by exact rfl) (by exact rfl) (by omega) (by omega) hvs hpos (by exact fun _ h => h) ?_
    repeat' first
      | (refine p_at (by exact rfl) ?_
         first
          | refine t_move (by exact rfl) (by exact rfl) (by exact fun _ h => h) ?_
          | refine t_eql (by exact rfl) (by exact rfl) (by exact rfl) (by exact fun _ h => h) ?_
          | refine t_ld_row (by exact rfl) (by exact rfl) (by exact .tail _ (.tail _ (.tail _ (.head _)))) (by assumption) (by exact fun _ h => h) ?_
          | fail)
      | fail
    refine p_call (gd := none) (by exact rfl) rfl (by exact rfl) (fun w h => HasN_ok vb out k w hvb (ro_own h (by exact .tail _ (.head _)))) (by exact fun _ h => h) ?_
    rw [hst]
    repeat' first
      | refine p_nil ?_
      | (refine p_at (by exact rfl) ?_
         first
          | refine t_neqb (by exact rfl) (by exact rfl) (by exact rfl) (by exact fun _ h => h) ?_
          | fail)
      | fail
    repeat' first
      | refine k_then ?_
      | refine c_seq ?_
      | refine c_region ?_
      | refine s_nil ?_
      | refine s_assign (by exact rfl) (by exact rfl) ?_
      | refine c_block ?_
      | refine c_skip ?_
      | refine c_ret ?_
      | refine k_then_ret ?_
      | refine k_blk_ret ?_
      | (refine c_cond_p (by exact rfl) (fun h => ?_) (fun h => ?_) <;> try (exfalso; omega))
      | fail
    · exact absurd rfl h
    refine c_loop (fun q : Nat => q ≤ 2) (fun q => [(2, .pointer (some ⟨bg, 0, none⟩)), (5, vs), (7, vn), (9, vb), (10, va), (11, .int .i64 (k : Int)), (12, .int .i64 (q : Int))])
      (fun q => [rowHP va 3 1 Fs.length (nV (manyL Fs (dartsE ((tn es).take k) ++ [dartQ e 0, dartQ e 1].take q))), rowHP vb 3 1 out.length (nV out), rowHP vn 3 1 Fs.length (nV (Fs.map List.length)), rowHP vs 58 2 es.length (dsV (sidesL Fs es)), boxHP bg 24 [.int .i64 n, v]])
      (fun q => 2 - q) 0 [0, 0, 0, 0, 0] (Nat.zero_le _) (by rw [List.take_zero, List.append_nil]; exact rfl) ⟨rfl, rfl, rfl, rfl, rfl, rfl, rfl, trivial⟩ ?_
    rintro q hq
    by_cases hql : q < 2
    · have hdq : (dsV (sidesL Fs es))[k * 2 + q]? = some (.int .i64 (faceOf Fs (dartQ e q) : Int)) := by
        rcases (by omega : q = 0 ∨ q = 1) with rfl | rfl
        · exact hd0
        · exact hd2
      have htq : [dartQ e 0, dartQ e 1].take (q + 1) = [dartQ e 0, dartQ e 1].take q ++ [dartQ e q] := by
        rcases (by omega : q = 0 ∨ q = 1) with rfl | rfl <;> rfl
      have hfq := hfe q
      have hml := manyL_length Fs (dartsE ((tn es).take k) ++ [dartQ e 0, dartQ e 1].take q)
      have hcb : ((dartsE ((tn es).take k) ++ [dartQ e 0, dartQ e 1].take q).filter fun d => faceOf Fs d == faceOf Fs (dartQ e q)).length ≤ 2 * es.length + 2 := by
        have h1 := List.length_filter_le (fun d => faceOf Fs d == faceOf Fs (dartQ e q)) (dartsE ((tn es).take k) ++ [dartQ e 0, dartQ e 1].take q)
        rw [List.length_append, List.length_take] at h1
        simp only [List.length_cons, List.length_nil] at h1
        omega
      have hcell : (nV (manyL Fs (dartsE ((tn es).take k) ++ [dartQ e 0, dartQ e 1].take q)))[faceOf Fs (dartQ e q) * 1]? = some (.int .i64 (((dartsE ((tn es).take k) ++ [dartQ e 0, dartQ e 1].take q).filter fun d => faceOf Fs d == faceOf Fs (dartQ e q)).length : Int)) := by
        rw [Nat.mul_one, nV, List.getElem?_map, manyL_get hfq]; rfl
      have hsn := manyL_snoc (P := dartsE ((tn es).take k) ++ [dartQ e 0, dartQ e 1].take q) hfq
      rw [List.append_assoc, ← htq] at hsn
      have hset : (nV (manyL Fs (dartsE ((tn es).take k) ++ [dartQ e 0, dartQ e 1].take q))).set (faceOf Fs (dartQ e q) * 1) (.int .i64 ((((dartsE ((tn es).take k) ++ [dartQ e 0, dartQ e 1].take q).filter fun d => faceOf Fs d == faceOf Fs (dartQ e q)).length : Int) + 1)) = nV (manyL Fs (dartsE ((tn es).take k) ++ [dartQ e 0, dartQ e 1].take (q + 1))) := by
        rw [← hsn]
        exact nV_set _ _ _
      repeat' first
        | refine k_then ?_
        | refine c_seq ?_
        | refine c_region ?_
        | refine s_nil ?_
        | refine s_move (by exact rfl) (by exact rfl) ?_
        | refine s_lss (by exact rfl) (by exact rfl) (by exact rfl) ?_
        | refine s_idx (by exact rfl) (by exact rfl) (by exact rfl) (by assumption) (by first | assumption | omega) ?_
        | refine c_block ?_
        | refine c_skip ?_
        | (refine c_cond_p (by exact rfl) (fun h => ?_) (fun h => ?_) <;> try (exfalso; omega))
        | fail
      refine s_iap q (by exact rfl) (by exact rfl) (by exact rfl) (by omega) (by omega) hvs hpos ?_
      repeat' first
        | refine s_move (by exact rfl) (by exact rfl) ?_
        | refine s_lss (by exact rfl) (by exact rfl) (by exact rfl) ?_
        | refine s_ld_row (by exact rfl) (by exact rfl) (by exact .tail _ (.tail _ (.tail _ (.head _)))) (by assumption) ?_
        | (refine g_case (by exact rfl) (by exact rfl) (fun h => ?_) (fun h => ?_) <;> try (exfalso; omega))
        | refine w_move (by exact rfl) (by exact rfl) (by exact rfl) (by exact rfl) ?_
        | refine w_idx (by exact rfl) (by exact rfl) (by exact rfl) (by exact rfl) (by exact rfl) (by assumption) (by first | assumption | omega) ?_
        | refine g_on (by exact rfl) (by exact rfl) ?_
        | fail
      refine s_iap q (by exact rfl) (by exact rfl) (by exact rfl) (by omega) (by omega) hvs hpos ?_
      repeat' first
        | refine k_then ?_
        | refine c_region ?_
        | refine s_nil ?_
        | refine s_move (by exact rfl) (by exact rfl) ?_
        | refine s_idx (by exact rfl) (by exact rfl) (by exact rfl) (by assumption) (by first | assumption | omega) ?_
        | refine s_pick_f (by exact rfl) (by exact rfl) (by exact rfl) ?_
        | refine c_skip ?_
        | (refine c_cond_p (by exact rfl) (fun h => ?_) (fun h => ?_) <;> try (exfalso; omega))
        | refine w_move (by exact rfl) (by exact rfl) (by exact rfl) (by exact rfl) ?_
        | refine w_geq (by exact rfl) (by exact rfl) (by exact rfl) (by exact rfl) (by exact rfl) ?_
        | refine w_len (by exact rfl) (by exact rfl) (by exact rfl) (by exact rfl) (by assumption) ?_
        | refine w_ld_row (by exact rfl) (by exact rfl) (by exact rfl) (by exact rfl) (by exact .tail _ (.tail _ (.tail _ (.head _)))) (by assumption) ?_
        | fail
      refine s_iap q (by exact rfl) (by exact rfl) (by exact rfl) (by omega) (by omega) hvs hpos ?_
      repeat' first
        | refine s_add (by exact rfl) (by exact rfl) (by exact rfl) (by omega) ?_
        | refine s_idx (by exact rfl) (by exact rfl) (by exact rfl) (by assumption) (by first | assumption | omega) ?_
        | refine s_ld_row (by exact rfl) (by exact rfl) (by first | exact .head _ | exact .tail _ (.tail _ (.tail _ (.head _)))) (by assumption) ?_
        | fail
      refine o_st_row (i := 0) (by exact rfl) (by exact rfl) (by exact rfl) rfl (by omega) ?_
      rw [hset]
      repeat' first
        | refine k_then ?_
        | refine c_region ?_
        | refine s_nil ?_
        | refine s_move (by exact rfl) (by exact rfl) ?_
        | refine s_assign (by exact rfl) (by exact rfl) ?_
        | refine s_add (by exact rfl) (by exact rfl) (by exact rfl) (by omega) ?_
        | refine k_blk ?_
        | fail
      refine c_round (q + 1) [0, 0, 0, 0, 0] (by exact rfl) ⟨rfl, rfl, rfl, rfl, rfl, rfl, rfl, trivial⟩ (by omega) (by omega)
    · obtain rfl : q = 2 := by omega
      rw [show dartsE ((tn es).take k) ++ [dartQ e 0, dartQ e 1].take 2 = dartsE ((tn es).take (k + 1)) by rw [htd, List.append_assoc]; rfl]
      repeat' first
        | refine k_then ?_
        | refine c_seq ?_
        | refine c_region ?_
        | refine s_nil ?_
        | refine s_move (by exact rfl) (by exact rfl) ?_
        | refine s_assign (by exact rfl) (by exact rfl) ?_
        | refine s_lss (by exact rfl) (by exact rfl) (by exact rfl) ?_
        | refine s_add (by exact rfl) (by exact rfl) (by exact rfl) (by omega) ?_
        | refine c_exit ?_
        | refine k_then_exit ?_
        | refine k_blk ?_
        | refine k_blk_eq ?_
        | (refine c_cond_p (by exact rfl) (fun h => ?_) (fun h => ?_) <;> try (exfalso; omega))
        | fail
      refine c_round (k + 1) [0, 0, 0, 0, 0] (by exact rfl) ⟨rfl, rfl, rfl, rfl, rfl, rfl, trivial⟩ (by omega) (by omega)
  · obtain rfl : k = es.length := by omega
    rw [show (tn es).take es.length = tn es by rw [← tn_len]; exact List.take_length, hall]
    repeat' first
      | refine k_then ?_
      | refine c_seq ?_
      | refine c_region ?_
      | refine s_nil ?_
      | refine s_move (by exact rfl) (by exact rfl) ?_
      | refine s_lss (by exact rfl) (by exact rfl) (by exact rfl) ?_
      | refine s_len (by exact rfl) (by exact rfl) (by assumption) ?_
      | refine c_exit ?_
      | refine k_then_exit ?_
      | refine k_blk_eq ?_
      | (refine c_cond_p (by exact rfl) (fun h => ?_) (fun h => ?_) <;> try (exfalso; omega))
      | fail
    refine s_call (by exact rfl) (by exact rfl) (fun w h => IntsN_ok va vn (Fs.map List.length) (Fs.map List.length) w (by rw [List.length_map]; exact hva) (by rw [List.length_map]; exact hvn) (ro_own h (by exact .head _)) (ro_own h (by exact .tail _ (.tail _ (.head _))))) ?_
    rw [decide_eq_true rfl]
    repeat' first
      | refine s_move (by exact rfl) (by exact rfl) ?_
      | refine g_on (by exact rfl) (by exact rfl) ?_
      | fail
    refine s_call (vs := []) (by exact rfl) (by exact rfl) (fun w h => alive10_ok w) ?_
    repeat' first
      | refine k_then ?_
      | refine s_nil ?_
      | refine s_assign (by exact rfl) (by exact rfl) ?_
      | refine s_pick_t (by exact rfl) (by exact rfl) (by exact rfl) ?_
      | refine c_ret ?_
      | fail
    refine ret1 [] rfl rfl (by exact rfl) ⟨rfl, rfl⟩
end Go.Proofs.Ytpajjnkmaebhcaa
end
section
namespace Go.Proofs.Ytpajjnkmaebhcaa
open Go.ChangeShapes Go.WideShapes Go.ChangeAt Go.RowKit Go.Joins Go.Deep Go.Sl Fil
set_option maxRecDepth 100000
set_option linter.unusedVariables false
set_option linter.unusedSimpArgs false
theorem row_own : ownKnob Try.prog.godebug = none := by kernel_rfl
theorem row_laid : laidOutB Try.prog = true := by kernel_rfl
theorem cells_graph : Try.prog.cellsOf 24 = 2 := by kernel_rfl
theorem cells_edge : Try.prog.cellsOf 60 = 3 := by kernel_rfl
theorem cells_int : Try.prog.cellsOf 3 = 1 := by kernel_rfl
section
variable {H : Type} {enc : TypeId × Value → H}
theorem slice_spot {P : Program} {w : World} {r : Reach} {base : Nat} {t e : TypeId} {a : Addr} {len cap : Nat} (hu : P.underlying t = some (.slice e)) (h : Cell.okWide P w r base t (.slice (some a) len cap)) : a.spot = none := by
  simp only [Cell.okWide, hu, Cell.ok, World.has] at h
  exact h.2.2.2.1
theorem es_list {n : Nat} {f : Nat → Nat → Value} (h : ∀ i, i < n → ∃ a b c, f i 0 = .int .i64 a ∧ f i 1 = .int .i64 b ∧ f i 2 = .int .i64 c) : ∃ es : List E, es.length = n ∧ ∀ (i : Nat) j u, i < n → j < 3 → (esV es)[i * 3 + j]? = some u → u = f i j := by
  induction n with
  | zero => exact ⟨[], rfl, fun i j u hi => by omega⟩
  | succ n ih =>
    obtain ⟨es, h1, h2⟩ := ih fun i hi => h i (by omega)
    obtain ⟨a, b, c, ha, hb, hc⟩ := h n (by omega)
    refine ⟨es ++ [(a, b, c)], by simp [h1], fun i j u hi hj hu => ?_⟩
    rw [esV_snoc] at hu
    have hl := esV_length es
    by_cases hin : i < n
    · rw [List.getElem?_append_left (by omega)] at hu
      exact h2 i j u hin hj hu
    · obtain rfl : i = n := by omega
      rw [List.getElem?_append_right (by omega), show i * 3 + j - (esV es).length = j from by omega] at hu
      match j, hj with
      | 0, _ => simp [eV] at hu; rw [← hu, ha]
      | 1, _ => simp [eV] at hu; rw [← hu, hb]
      | 2, _ => simp [eV] at hu; rw [← hu, hc]
theorem open_edges {W : World} {base fuel : Nat} {v : Value} {y : DataW H × List MemPlace} (hv : Cell.okWide Try.prog W .any base 22 v) (h : DataW.trod enc Try.prog W 0 (fun _ => true) true fuel 22 [v] = some y) :
    ∃ es : List E, Shp v es.length ∧ RO W No v (esV es) := by
  rcases open_slice Try.underlying22 h with ⟨hcs, _⟩ | ⟨a, len, cap, m, n, D, Pl, hcs, _, hl, hm, hmm, _, hx⟩
  · simp only [List.cons.injEq, and_true] at hcs
    subst hcs
    exact ⟨[], ⟨by simp [maxLen], .inl ⟨rfl, rfl⟩⟩, RO.of_rd fun j u hj => by simp [esV] at hj⟩
  · simp only [List.cons.injEq, and_true] at hcs
    subst hcs
    have hsp := slice_spot Try.underlying22 hv
    obtain ⟨g, off, sp⟩ := a
    dsimp only at hsp
    subst hsp
    simp only [if_true] at hmm
    subst hmm
    have key : ∀ i, i < len → ∃ a b c, W.cell? ⟨g, off + (i * 3 + 0), none⟩ = some (.int .i64 a) ∧ W.cell? ⟨g, off + (i * 3 + 1), none⟩ = some (.int .i64 b) ∧ W.cell? ⟨g, off + (i * 3 + 2), none⟩ = some (.int .i64 c) := by
      intro i hi
      obtain ⟨cs, h1, h2⟩ := hx i (by omega)
      rw [cells_edge] at h1
      obtain ⟨_, hlen, hc⟩ := World.cells?_some h1
      obtain ⟨y0, y1, y2, k, _, _, t0, t1, t2⟩ := trod_struct3 Try.underlying60 h2
      obtain ⟨a, e0, -, -⟩ := DataW.trod_int Try.underlying3 t0
      obtain ⟨b, e1, -, -⟩ := DataW.trod_int Try.underlying3 t1
      obtain ⟨c, e2, -, -⟩ := DataW.trod_int Try.underlying2 t2
      match cs, hlen, hc, e0, e1, e2 with
      | [x0, x1, x2], _, hc, e0, e1, e2 =>
        have c0 := hc 0 (by omega)
        have c1 := hc 1 (by omega)
        have c2 := hc 2 (by omega)
        have f0 : x0 = .int .i64 a := by
          have : [x0] = [.int .i64 a] := e0
          simpa using this
        have f1 : x1 = .int .i64 b := by
          have : [x1] = [.int .i64 b] := e1
          simpa using this
        have f2 : x2 = .int .i64 c := by
          have : [x2] = [.int .i64 c] := e2
          simpa using this
        subst f0 f1 f2
        refine ⟨a, b, c, ?_, ?_, ?_⟩
        · rw [Deep.add_add] at c0
          rw [show (⟨g, off + (i * 3 + 0), none⟩ : Addr) = (⟨g, off, none⟩ : Addr).add (i * 3 + 0) from by simp [Addr.add]]
          exact c0
        · rw [Deep.add_add] at c1
          rw [show (⟨g, off + (i * 3 + 1), none⟩ : Addr) = (⟨g, off, none⟩ : Addr).add (i * 3 + 1) from by simp [Addr.add]]
          exact c1
        · rw [Deep.add_add] at c2
          rw [show (⟨g, off + (i * 3 + 2), none⟩ : Addr) = (⟨g, off, none⟩ : Addr).add (i * 3 + 2) from by simp [Addr.add]]
          exact c2
    obtain ⟨es, he1, he2⟩ := es_list (n := len) (f := fun i j => (W.cell? ⟨g, off + (i * 3 + j), none⟩).getD undef) (fun i hi => by
      obtain ⟨a, b, c, h0, h1, h2⟩ := key i hi
      exact ⟨a, b, c, congrArg (fun x => Option.getD x undef) h0, congrArg (fun x => Option.getD x undef) h1, congrArg (fun x => Option.getD x undef) h2⟩)
    subst he1
    refine ⟨es, ⟨by omega, .inr (.inl ⟨g, off, m, rfl, hl, hm⟩)⟩, RO.of_rd fun j u hj => ⟨g, off, es.length, m, rfl, ?_⟩⟩
    have hlt := (List.getElem?_eq_some_iff.1 hj).1
    rw [esV_length] at hlt
    have hd : j / 3 * 3 + j % 3 = j := by omega
    have hu := he2 (j / 3) (j % 3) u (by omega) (by omega) (by rw [hd]; exact hj)
    rw [hd] at hu
    obtain ⟨a, b, c, h0, h1, h2⟩ := key (j / 3) (by omega)
    have hex : ∃ x, W.cell? ⟨g, off + j, none⟩ = some x := by
      have : j % 3 = 0 ∨ j % 3 = 1 ∨ j % 3 = 2 := by omega
      rcases this with h | h | h
      · exact ⟨_, by rw [← hd, h]; exact h0⟩
      · exact ⟨_, by rw [← hd, h]; exact h1⟩
      · exact ⟨_, by rw [← hd, h]; exact h2⟩
    obtain ⟨x, hx⟩ := hex
    rw [hx] at hu ⊢
    rw [hu]
    rfl
theorem open_graph {W : World} {base : Nat} {v : Value} {d : DataW H} {p : List MemPlace} (hv : Value.okWide Try.prog W .any base 24 v) (h : DataW.Trod enc Try.prog W 0 (fun _ => true) true 24 v d p) :
    ∃ (n : Int) (u : Value) (es : List E), v = .agg #[.int .i64 n, u] ∧ Shp u es.length ∧ RO W No u (esV es) := by
  obtain ⟨c0, c1, y0, y1, m, rfl, -, -, hy0, hy1⟩ := open_agg2 Try.underlying24 (by kernel_rfl) cells_graph hv h
  obtain ⟨a, e0, -, -⟩ := DataW.trod_int Try.underlying3 hy0
  simp only [List.cons.injEq, and_true] at e0
  subst e0
  have hc : Cell.okWide Try.prog W .any base 22 c1 := by
    simp only [Value.okWide, Try.underlying24] at hv
    obtain ⟨cs, hcs, _, ts, hts, _, hall⟩ := hv
    obtain rfl : cs = #[.int .i64 a, c1] := by simpa using hcs.symm
    have e : Try.prog.cellTypes Try.prog.depth 24 = some [3, 22] := by kernel_rfl
    rw [e] at hts
    obtain rfl : [3, 22] = ts := by simpa using hts
    obtain ⟨u, hu, hok⟩ := hall 1 c1 rfl
    obtain rfl : 22 = u := by simpa using hu
    exact hok
  obtain ⟨es, h1, h2⟩ := open_edges hc hy1
  exact ⟨a, c1, es, rfl, h1, h2⟩
end
end Go.Proofs.Ytpajjnkmaebhcaa
end
section
namespace Go.Proofs.Ytpajjnkmaebhcaa
open Go.ChangeShapes Go.WideShapes Go.ChangeAt Go.RowKit Go.Joins Go.Deep Go.Sl Fil
set_option maxRecDepth 100000
set_option linter.unusedVariables false
set_option linter.unusedSimpArgs false
section
variable {H : Type} {enc : TypeId × Value → H}
theorem pick_lists {n : Nat} {P : Nat → Value → List Int → Prop} (h : ∀ i, i < n → ∃ x l, P i x l) : ∃ (hs : List Value) (ls : List (List Int)), hs.length = n ∧ ls.length = n ∧ ∀ (i : Nat) x l, hs[i]? = some x → ls[i]? = some l → P i x l := by
  induction n with
  | zero => exact ⟨[], [], rfl, rfl, fun i x l h => by simp at h⟩
  | succ n ih =>
    obtain ⟨hs, ls, h1, h2, h3⟩ := ih fun i hi => h i (by omega)
    obtain ⟨x, l, hp⟩ := h n (by omega)
    refine ⟨hs ++ [x], ls ++ [l], by simp [h1], by simp [h2], fun i y m hy hm => ?_⟩
    by_cases hi : i < n
    · rw [List.getElem?_append_left (by omega)] at hy hm
      exact h3 i y m hy hm
    · have hb := (List.getElem?_eq_some_iff.1 hy).1
      simp only [List.length_append, List.length_cons, List.length_nil] at hb
      obtain rfl : i = n := by omega
      rw [List.getElem?_append_right (by omega), show i - hs.length = 0 by omega] at hy
      rw [List.getElem?_append_right (by omega), show i - ls.length = 0 by omega] at hm
      simp at hy hm
      subst hy hm
      exact hp
theorem weights_all {P : Program} {e : TypeId} : ∀ {l : List (DataW H)} {d : DataW H}, d ∈ l → ∀ n ∈ d.weights P e, n ∈ DataW.weightsAll P e l
  | x :: l, d, h, n, hn => by
    rw [DataW.weightsAll]
    rcases List.mem_cons.1 h with rfl | h
    · exact List.mem_append.2 (.inl hn)
    · exact List.mem_append.2 (.inr (weights_all h n hn))
theorem okc_rows {W : World} {base : Nat} {v x : Value} (hc : Cell.okWide Try.prog W .any base 25 v) (h : v.cells.toList = [x]) : v = x := by
  cases v with
  | agg cs => simp [Cell.okWide, Try.underlying25, Cell.ok] at hc
  | _ => simpa [Value.cells] using h
theorem open_rows {W : World} {base : Nat} {v : Value} {d : DataW H} {p : List MemPlace} (hv : Value.okWide Try.prog W .any base 25 v) (h : DataW.Trod enc Try.prog W 0 (fun _ => true) true 25 v d p) (hz : ∀ n ∈ d.weights Try.prog 25, n ≤ reachBytes) :
    ∃ (hs : List Value) (ls : List (List Int)), ROsI W No v hs ls ∧ ∀ l ∈ ls, l.length ≤ 17592186044416 := by
  obtain ⟨fuel, hf⟩ := h
  have hc : Cell.okWide Try.prog W .any base 25 v := by
    simp only [Value.okWide, Try.underlying25] at hv
    exact hv
  rcases open_slice1 Try.underlying25 (by kernel_rfl) hf with ⟨hcs, _⟩ | ⟨a, len, cap, m, n, V, D, Pl, hcs, _, hl, hm, hmm, hxd, hx⟩
  · have hv0 : v = .slice none 0 0 := okc_rows hc hcs
    subst hv0
    exact ⟨[], [], ⟨⟨by simp [maxLen], .inl ⟨rfl, rfl⟩⟩, rfl, RO.of_rd fun j u hj => by simp at hj, fun i x l hi => by simp at hi⟩, by simp⟩
  · have hv0 : v = .slice (some a) len cap := okc_rows hc hcs
    subst hv0
    have hsp := slice_spot Try.underlying25 hc
    obtain ⟨g, off, sp⟩ := a
    dsimp only at hsp
    subst hsp
    rw [if_pos rfl] at hmm
    subst hmm
    obtain ⟨hs, ls, h1, h2, h3⟩ := pick_lists (n := len) (P := fun i x l => W.cell? ⟨g, off + i, none⟩ = some x ∧ (Shp x l.length ∧ RO W No x (iV l)) ∧ l.length ≤ 17592186044416) fun i hi => by
      obtain ⟨c1, c2⟩ := hx i (by omega)
      rw [show (⟨g, off, none⟩ : Addr).add i = ⟨g, off + i, none⟩ from by simp [Addr.add]] at c1
      rcases open_ints Try.underlying36 Try.underlying3 cells_int c2 with ⟨e, _⟩ | ⟨a', len', cap', zs, e, _, hl', hm', hzl, hdd, hx', _⟩
      · obtain e : V i = .slice none 0 0 := by simpa using e
        rw [e] at c1
        exact ⟨_, [], c1, ⟨⟨by simp [maxLen], .inl ⟨rfl, rfl⟩⟩, RO.of_rd fun j u hj => by simp [iV] at hj⟩, by simp⟩
      · obtain e : V i = .slice (some a') len' cap' := by simpa using e
        rw [e] at c1
        rw [if_pos rfl] at hzl
        by_cases h0 : cap' = 0
        · obtain rfl : len' = 0 := by omega
          subst h0
          exact ⟨_, [], c1, ⟨⟨by simp [maxLen], .inr (.inr ⟨⟨_, rfl⟩, rfl⟩)⟩, RO.of_rd fun j u hj => by simp [iV] at hj⟩, by simp⟩
        · have hsp := World.cell?_spot (hx' 0 (by omega))
          obtain ⟨g', off', sp'⟩ := a'
          obtain rfl : sp' = none := by simpa [Addr.add] using hsp
          have htl : (zs.take len').length = len' := by rw [List.length_take]; omega
          have hzz : len' ≤ 17592186044416 := by
            have e1 : D i = .slice (lits .i64 (zs.take len')) (lits .i64 (zs.drop len')) := congrArg Prod.fst hdd
            have e2 : (8 : Nat) = Try.prog.bytesOf 3 := by kernel_rfl
            have h5 : (zs.length * 8) ∈ (D i).weights Try.prog 36 := by
              rw [e1, DataW.weights, Try.underlying36]
              refine List.mem_cons.2 (.inl ?_)
              rw [← e2]
              simp [lits]
              omega
            have h6 : (D i) ∈ (List.range len).map D := List.mem_map.2 ⟨i, List.mem_range.2 hi, rfl⟩
            have h7 := hz _ (by
              rw [show d = _ from congrArg Prod.fst hxd, DataW.weights, Try.underlying25]
              exact List.mem_cons.2 (.inr (List.mem_append.2 (.inl (weights_all h6 _ h5)))))
            simp only [reachBytes] at h7
            omega
          refine ⟨_, zs.take len', c1, ⟨⟨by rw [htl]; omega, .inr (.inl ⟨g', off', cap', by rw [htl], by rw [htl]; exact hl', hm'⟩)⟩, RO.of_rd fun j u hj => ⟨g', off', len', cap', rfl, ?_⟩⟩, by rw [htl]; exact hzz⟩
          have hlt := (List.getElem?_eq_some_iff.1 hj).1
          simp only [iV, List.length_map, htl] at hlt
          have h2 := hx' j (by omega)
          rw [show (⟨g', off', none⟩ : Addr).add j = ⟨g', off' + j, none⟩ from by simp [Addr.add]] at h2
          rw [h2, ← hj]
          simp only [iV, List.getElem?_map, List.getElem?_take, if_pos hlt]
          rw [List.getD_eq_getElem?_getD, List.getElem?_eq_getElem (by omega)]
          rfl
    refine ⟨hs, ls, ⟨⟨by rw [h2]; omega, .inr (.inl ⟨g, off, m, by rw [h2], by rw [h2]; exact hl, hm⟩)⟩, by omega, RO.of_rd fun j u hj => ⟨g, off, len, m, rfl, ?_⟩, fun i x l hi hli => (h3 i x l hi hli).2.1⟩, fun l hl => ?_⟩
    rotate_left
    · obtain ⟨i, hi⟩ := List.getElem?_of_mem hl
      have hb := (List.getElem?_eq_some_iff.1 hi).1
      exact (h3 i _ l (List.getElem?_eq_getElem (show i < hs.length by omega)) hi).2.2
    have hlt := (List.getElem?_eq_some_iff.1 hj).1
    obtain ⟨l, hl2⟩ : ∃ l, ls[j]? = some l := ⟨_, List.getElem?_eq_getElem (by omega)⟩
    exact (h3 j u l hj hl2).1
end
end Go.Proofs.Ytpajjnkmaebhcaa
end
