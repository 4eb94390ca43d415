/- Of FacesEuler FacesDual: part 5: what the walks rest on, contracts of functions and plain lemmas; no condition but those that each states. -/
import Derived.Test.YtpajjnkmaebhcaaRd4
import Derived.ProofKit
import Derived.Deep.Slices
import Derived.Deep.Strs
import Derived.Lib.SmallJoins
import Derived.ChangeSlices
import Derived.SizedLaws
set_option linter.unusedVariables false
set_option linter.unusedSimpArgs false
section
set_option linter.unusedVariables false
namespace Go.Proofs.Ytpajjnkmaebhcaa
open Go Go.RowKit Go.Sl Fil
set_option maxRecDepth 100000
set_option maxHeartbeats 8000000
set_option linter.unusedVariables false
set_option linter.unusedSimpArgs false
attribute [local irreducible] Code.wp wpList bodyPost wpQuiet Exit.then Exit.inBlock Post wpAnyH wpOp
theorem FacesEuler_ok (n : Int) (v : Value) (es : List E) (vr : Value) (hr0 : List Value) (ls : List (List Int)) (w : World) (hs : Shp v es.length) (hr : RO w No v (esV es)) (hR : ROsI w No vr hr0 ls) (hlen : ∀ l ∈ ls, l.length ≤ 17592186044416) :
    Calls Try.prog 11 #[.agg #[.int .i64 n, v], vr] w (Post w No (Just (.bool true))) := by
  refine enter0 (vs := [_, _]) Try.func11 rfl Try.ntmps11 rfl ?_
  repeat' first
    | refine k_then ?_
    | refine c_seq ?_
    | refine c_region ?_
    | refine s_nil ?_
    | refine s_move (by exact rfl) (by exact rfl) ?_
    | refine s_assign (by exact rfl) (by exact rfl) ?_
    | refine s_ldk_box (by exact rfl) (by exact rfl) (by exact .head _) (by exact rfl) (by exact rfl) ?_
    | refine o_box (by exact rfl) (by exact rfl) (fun b => ?_)
    | fail
  refine s_call (by exact rfl) (by exact rfl) (fun w h => Light7_ok n v es.length vr hr0 ls 30 w hs (rosI_old h hR) hlen (by omega)) ?_
  cases hl : light7 n es.length ls 30
  · repeat' first
      | refine k_then ?_
      | refine c_seq ?_
      | refine c_region ?_
      | refine s_nil ?_
      | refine s_move (by exact rfl) (by exact rfl) ?_
      | refine s_not (by exact rfl) (by exact rfl) ?_
      | refine s_pick_t (by exact rfl) (by exact rfl) (by exact rfl) ?_
      | refine c_cond_t (by exact rfl) ?_
      | refine g_skip (by exact rfl) (by exact rfl) (by exact rfl) (by exact rfl) ?_
      | fail
    refine s_call (vs := []) (by exact rfl) (by exact rfl) (fun w h => alive10_ok w) ?_
    repeat' first
      | refine k_then ?_
      | refine s_nil ?_
      | refine s_assign (by exact rfl) (by exact rfl) ?_
      | refine c_ret ?_
      | refine k_then_ret ?_
      | fail
    refine ret1 [] rfl rfl (by exact rfl) ⟨rfl, rfl⟩
  obtain ⟨l1, l2, l3, l4⟩ := light7_t hl
  have hle : ∀ l ∈ ls, l.length ≤ 1048576 := fun l hl => by have := l4 l hl; omega
  by_cases hk : rotK n es ls = 0
  · obtain ⟨hG, R, rfl, hRot⟩ := rot_sys hk
    have hRs := hR.nat
    obtain ⟨o, lab, hL⟩ := lev_ex w hG
    repeat' first
      | refine s_move (by exact rfl) (by exact rfl) ?_
      | refine s_not (by exact rfl) (by exact rfl) ?_
      | refine w_move (by exact rfl) (by exact rfl) (by exact rfl) (by exact rfl) ?_
      | refine w_ldk_box (by exact rfl) (by exact rfl) (by exact rfl) (by exact rfl) (by exact .head _) (by exact rfl) (by exact rfl) ?_
      | refine g_on (by exact rfl) (by exact rfl) ?_
      | fail
    refine s_call (by exact rfl) (by exact rfl) (fun w h => refPlane_ok n v es vr hr0 R o lab w hs (ro_old h hr) hG (ros_old h hRs) hRot hL) ?_
    by_cases hp : planeR n.toNat (tn es) lab R = 0
    · rw [hp]
      repeat' first
        | refine k_then ?_
        | refine c_seq ?_
        | refine c_region ?_
        | refine s_nil ?_
        | refine s_move (by exact rfl) (by exact rfl) ?_
        | refine s_pick_f (by exact rfl) (by exact rfl) (by exact rfl) ?_
        | refine s_ldk_box (by exact rfl) (by exact rfl) (by exact .head _) (by exact rfl) (by exact rfl) ?_
        | refine c_skip ?_
        | (refine c_cond_p (by exact rfl) (fun h => ?_) (fun h => ?_) <;> try (exfalso; omega))
        | refine w_neq (by exact rfl) (by exact rfl) (by exact rfl) (by exact rfl) (by exact rfl) ?_
        | fail
      revert b; intro bg
      refine o_call (by exact rfl) (by exact rfl) (fun w h => Dual_ok n v es vr hr0 R w hs (ro_old h hr) hG (ros_old h hRs) hRot (hp ▸ planeIs_ok hs (ro_old h hr) hG (ros_old h hRs) hRot hL)) ?_
      rintro _ _ ⟨ve, rfl, rfl⟩
      have hsum := euler_sum hG hRot hL (planeR_two hp)
      have hlo := hG.lo
      refine know_row (v := ve) (.head _) fun hve _ => ?_
      repeat' first
        | refine s_move (by exact rfl) (by exact rfl) ?_
        | refine s_extract (by exact rfl) (by exact rfl) (by exact rfl) ?_
        | refine o_alloc (by exact rfl) (fun b => ?_)
        | fail
      refine o_stk_box (i := 0) (us := [.int .i64 ((facesR n.toNat (tn es) R).length : Int), ve]) (by exact rfl) (by exact rfl) (by exact rfl) (by exact rfl) (by exact rfl) (by
        intro u hu
        simp only [List.mem_cons, List.not_mem_nil, or_false] at hu
        rcases hu with rfl | rfl
        · rfl
        · exact hve.one) (by simp [Value.cells]) ?_
      repeat' first
        | refine k_then ?_
        | refine c_seq ?_
        | refine c_region ?_
        | refine s_nil ?_
        | refine s_assign (by exact rfl) (by exact rfl) ?_
        | refine s_ldk_box (by exact rfl) (by exact rfl) (by exact .tail _ (.tail _ (.head _))) (by exact rfl) (by exact rfl) ?_
        | fail
      refine o_call (by exact rfl) (by exact rfl) (fun w h => refNear_ok n v es w hs (ro_old h hr) hG) ?_
      rintro vn _ ⟨hn, hnl, rfl⟩
      refine know_row (v := vn) (.head _) fun hvn _ => ?_
      repeat' first
        | refine k_then ?_
        | refine c_seq ?_
        | refine c_region ?_
        | refine s_nil ?_
        | refine s_assign (by exact rfl) (by exact rfl) ?_
        | refine c_block ?_
        | fail
      revert b; intro b5
      refine c_loop (fun k : Nat => k ≤ n.toNat) (fun k => [(2, .pointer (some ⟨bg, 0, none⟩)), (5, .pointer (some ⟨b5, 0, none⟩)), (6, .int .i64 0), (7, vn), (8, .int .i64 ((((List.range n.toNat).take k).filter fun v => decide (0 < (nearS (tn es) v).length)).length : Int)), (9, .int .i64 (k : Int))])
        (fun k => [rowHP vn 36 1 n.toNat hn, starHP (kids rowN hn ((List.range n.toNat).map (nearS (tn es)))), boxHP b5 24 [.int .i64 ((facesR n.toNat (tn es) R).length : Int), ve], rowHP ve 60 3 es.length (esV (dualL (facesR n.toNat (tn es) R) es)), boxHP bg 24 [.int .i64 n, v]])
        (fun k => n.toNat - k) 0 [0, 0, 0, 0, 0] (Nat.zero_le _) (by exact rfl) ⟨rfl, rfl, rfl, rfl, rfl, rfl, trivial⟩ ?_
      rintro k hk
      have hnm : n ≤ 30 := by omega
      have hck : (((List.range n.toNat).take k).filter fun v => decide (0 < (nearS (tn es) v).length)).length ≤ k := by
        have := List.length_filter_le (fun v => decide (0 < (nearS (tn es) v).length)) ((List.range n.toNat).take k)
        rw [List.length_take] at this; omega
      by_cases hkl : k < n.toNat
      · obtain ⟨hd, hhd⟩ : ∃ hd, hn[k]? = some hd := ⟨_, List.getElem?_eq_getElem (by omega)⟩
        have hhd1 : hn[k * 1]? = some hd := by rw [Nat.mul_one]; exact hhd
        have hrk : (List.range n.toNat)[k]? = some k := List.getElem?_range hkl
        have hcnt := fcount (fun v => decide (0 < (nearS (tn es) v).length)) hrk
        have hkd : rowHP hd 3 1 (nearS (tn es) k).length (nV (nearS (tn es) k)) ∈ kids rowN hn ((List.range n.toNat).map (nearS (tn es))) := kids_mem (f := rowN) hhd (by rw [List.getElem?_map, hrk]; rfl)
        refine know_kid (by exact .tail _ (.head _)) hkd fun hsd _ => ?_
        repeat' first
          | refine k_then ?_
          | refine c_seq ?_
          | refine c_region ?_
          | refine s_nil ?_
          | refine s_move (by exact rfl) (by exact rfl) ?_
          | refine s_assign (by exact rfl) (by exact rfl) ?_
          | refine s_fa (by exact rfl) (by exact rfl) ?_
          | refine s_ld_box (by exact rfl) (by exact rfl) (by exact .tail _ (.tail _ (.tail _ (.tail _ (.head _))))) (by exact rfl) ?_
          | refine s_lss (by exact rfl) (by exact rfl) (by exact rfl) ?_
          | refine s_gtr (by exact rfl) (by exact rfl) (by exact rfl) ?_
          | refine s_add (by exact rfl) (by exact rfl) (by exact rfl) (by omega) ?_
          | refine s_len (by exact rfl) (by exact rfl) (by assumption) ?_
          | refine s_idx (by exact rfl) (by exact rfl) (by exact rfl) (by assumption) (by first | assumption | omega) ?_
          | refine s_ld_row (by exact rfl) (by exact rfl) (by exact .head _) (by assumption) ?_
          | refine c_block ?_
          | refine c_skip ?_
          | refine k_blk ?_
          | (refine c_cond_p (by exact rfl) (fun h => ?_) (fun h => ?_) <;> try (exfalso; omega))
          | fail
        · rw [if_pos (decide_eq_true (by omega))] at hcnt
          refine c_round (k + 1) [0, 0, 0, 0, 0] (by exact rfl) (by rw [hcnt]; exact ⟨rfl, rfl, rfl, rfl, rfl, rfl, trivial⟩) (by omega) (by omega)
        · rw [if_neg (by rw [decide_eq_true_iff]; omega)] at hcnt
          refine c_round (k + 1) [0, 0, 0, 0, 0] (by exact rfl) (by rw [hcnt]; exact ⟨rfl, rfl, rfl, rfl, rfl, rfl, trivial⟩) (by omega) (by omega)
      · have hkk : k = (List.range n.toNat).length := by rw [List.length_range]; omega
        rw [hkk, List.take_length] at hck ⊢
        rw [show (List.range n.toNat).filter (fun v => decide (0 < (nearS (tn es) v).length)) = nearF n.toNat (tn es) from rfl] at hck ⊢
        rw [List.length_range] at hck ⊢
        repeat' first
          | refine k_then ?_
          | refine c_seq ?_
          | refine c_region ?_
          | refine s_nil ?_
          | refine s_move (by exact rfl) (by exact rfl) ?_
          | refine s_fa (by exact rfl) (by exact rfl) ?_
          | refine s_ld_box (by exact rfl) (by exact rfl) (by exact .tail _ (.tail _ (.tail _ (.tail _ (.head _))))) (by exact rfl) ?_
          | refine s_lss (by exact rfl) (by exact rfl) (by exact rfl) ?_
          | refine s_ldk_box (by exact rfl) (by exact rfl) (by exact .tail _ (.tail _ (.tail _ (.tail _ (.head _))))) (by exact rfl) (by exact rfl) ?_
          | refine c_exit ?_
          | refine k_then_exit ?_
          | refine k_blk_eq ?_
          | (refine c_cond_p (by exact rfl) (fun h => ?_) (fun h => ?_) <;> try (exfalso; omega))
          | fail
        refine o_call (by exact rfl) (by exact rfl) (fun w h => refComps_ok n v es o lab w hs (ro_old h hr) hG hL) ?_
        rintro vc _ ⟨hc, hcl, rfl⟩
        refine know_row (v := vc) (.head _) fun hvc _ => ?_
        have hcN : (compsS n.toNat lab).length ≤ n.toNat := compsI_length _ _ lab
        have hcl2 : ∀ c ∈ compsS n.toNat lab, c.length ≤ n.toNat := fun c hc => by
          obtain ⟨r, h1, h2, rfl⟩ := comp_mem hc
          have := List.length_filter_le (fun u => lab u == r) (List.range n.toNat); simpa using this
        generalize compsS n.toNat lab = cs at *
        generalize nearF n.toNat (tn es) = nf at *
        repeat' first
          | refine k_then ?_
          | refine c_seq ?_
          | refine c_region ?_
          | refine s_nil ?_
          | refine s_assign (by exact rfl) (by exact rfl) ?_
          | refine c_block ?_
          | fail
        refine c_loop (fun k : Nat => k ≤ cs.length) (fun k => [(2, .pointer (some ⟨bg, 0, none⟩)), (5, .pointer (some ⟨b5, 0, none⟩)), (6, .int .i64 0), (8, .int .i64 (nf.length : Int)), (10, vc), (11, .int .i64 (((cs.take k).filter fun c => decide (1 < c.length)).length : Int)), (12, .int .i64 (k : Int))])
          (fun k => [rowHP vc 36 1 cs.length hc, starHP (kids rowN hc cs), boxHP b5 24 [.int .i64 ((facesR n.toNat (tn es) R).length : Int), ve], boxHP bg 24 [.int .i64 n, v]])
          (fun k => cs.length - k) 0 [0, 0, 2, 3] (Nat.zero_le _) (by exact rfl) ⟨rfl, rfl, rfl, rfl, rfl, rfl, rfl, trivial⟩ ?_
        rintro k hk
        have hck2 : ((cs.take k).filter fun c => decide (1 < c.length)).length ≤ k := by
          have := List.length_filter_le (fun c : List Nat => decide (1 < c.length)) (cs.take k)
          rw [List.length_take] at this; omega
        by_cases hkl : k < cs.length
        · obtain ⟨c, hci⟩ : ∃ c, cs[k]? = some c := ⟨_, List.getElem?_eq_getElem hkl⟩
          obtain ⟨hd, hhd⟩ : ∃ hd, hc[k]? = some hd := ⟨_, List.getElem?_eq_getElem (by omega)⟩
          have hhd1 : hc[k * 1]? = some hd := by rw [Nat.mul_one]; exact hhd
          have hcnt := fcount (fun c : List Nat => decide (1 < c.length)) hci
          have hcb := hcl2 c (List.mem_of_getElem? hci)
          have hkd : rowHP hd 3 1 c.length (nV c) ∈ kids rowN hc cs := kids_mem (f := rowN) hhd hci
          refine know_kid (by exact .tail _ (.head _)) hkd fun hsd _ => ?_
          repeat' first
            | refine k_then ?_
            | refine c_seq ?_
            | refine c_region ?_
            | refine s_nil ?_
            | refine s_move (by exact rfl) (by exact rfl) ?_
            | refine s_assign (by exact rfl) (by exact rfl) ?_
            | refine s_lss (by exact rfl) (by exact rfl) (by exact rfl) ?_
            | refine s_gtr (by exact rfl) (by exact rfl) (by exact rfl) ?_
            | refine s_add (by exact rfl) (by exact rfl) (by exact rfl) (by omega) ?_
            | refine s_len (by exact rfl) (by exact rfl) (by assumption) ?_
            | refine s_idx (by exact rfl) (by exact rfl) (by exact rfl) (by assumption) (by first | assumption | omega) ?_
            | refine s_ld_row (by exact rfl) (by exact rfl) (by exact .head _) (by assumption) ?_
            | refine c_block ?_
            | refine c_skip ?_
            | refine k_blk ?_
            | (refine c_cond_p (by exact rfl) (fun h => ?_) (fun h => ?_) <;> try (exfalso; omega))
            | fail
          · rw [if_pos (decide_eq_true (by omega))] at hcnt
            refine c_round (k + 1) [0, 0, 0, 0] (by exact rfl) (by rw [hcnt]; exact ⟨rfl, rfl, rfl, rfl, rfl, rfl, rfl, trivial⟩) (by omega) (by omega)
          · rw [if_neg (by rw [decide_eq_true_iff]; omega)] at hcnt
            refine c_round (k + 1) [0, 0, 0, 0] (by exact rfl) (by rw [hcnt]; exact ⟨rfl, rfl, rfl, rfl, rfl, rfl, rfl, trivial⟩) (by omega) (by omega)
        · have hkk : k = cs.length := by omega
          rw [hkk, List.take_length] at hck2 ⊢
          generalize hq : (cs.filter fun c => decide (1 < c.length)).length = q at *
          generalize (facesR n.toNat (tn es) R).length = fl at *
          generalize nf.length = nl at *
          repeat' first
            | refine k_then ?_
            | refine c_seq ?_
            | refine c_region ?_
            | refine s_nil ?_
            | refine s_move (by exact rfl) (by exact rfl) ?_
            | refine s_lss (by exact rfl) (by exact rfl) (by exact rfl) ?_
            | refine s_eql (by exact rfl) (by exact rfl) (by exact rfl) ?_
            | refine s_len (by exact rfl) (by exact rfl) (by assumption) ?_
            | refine s_pick_t (by exact rfl) (by exact rfl) (by exact rfl) ?_
            | refine c_exit ?_
            | refine k_then_exit ?_
            | refine k_blk_eq ?_
            | (refine c_cond_p (by exact rfl) (fun h => ?_) (fun h => ?_) <;> try (exfalso; omega))
            | (refine g_case (by exact rfl) (by exact rfl) (fun h => ?_) (fun h => ?_) <;> try (exfalso; omega))
            | refine w_move (by exact rfl) (by exact rfl) (by exact rfl) (by exact rfl) ?_
            | refine w_fa (by exact rfl) (by exact rfl) (by exact rfl) (by exact rfl) ?_
            | refine w_ld_box (by exact rfl) (by exact rfl) (by exact rfl) (by exact rfl) (by first | exact .tail _ (.tail _ (.head _)) | exact .tail _ (.tail _ (.tail _ (.head _)))) (by exact rfl) ?_
            | refine w_eql (by exact rfl) (by exact rfl) (by exact rfl) (by exact rfl) (by exact rfl) ?_
            | refine w_add (by exact rfl) (by exact rfl) (by exact rfl) (by exact rfl) (by exact rfl) (by omega) ?_
            | refine w_mul (by exact rfl) (by exact rfl) (by exact rfl) (by exact rfl) (by exact rfl) (by omega) ?_
            | refine w_len (by exact rfl) (by exact rfl) (by exact rfl) (by exact rfl) (by assumption) ?_
            | refine g_on (by exact rfl) (by exact rfl) ?_
            | fail
          refine s_call (vs := []) (by exact rfl) (by exact rfl) (fun w h => alive10_ok w) ?_
          repeat' first
            | refine k_then ?_
            | refine s_nil ?_
            | refine s_assign (by exact rfl) (by exact rfl) ?_
            | refine s_pick_t (by exact rfl) (by exact rfl) (by exact rfl) ?_
            | refine c_ret ?_
            | fail
          refine ret1 [] rfl rfl (by exact rfl) ⟨rfl, rfl⟩
    · repeat' first
        | refine k_then ?_
        | refine c_seq ?_
        | refine c_region ?_
        | refine s_nil ?_
        | refine s_pick_f (by exact rfl) (by exact rfl) (by exact rfl) ?_
        | (refine c_cond_p (by exact rfl) (fun h => ?_) (fun h => ?_) <;> try (exfalso; omega))
        | refine w_neq (by exact rfl) (by exact rfl) (by exact rfl) (by exact rfl) (by exact rfl) ?_
        | fail
      refine s_call (vs := []) (by exact rfl) (by exact rfl) (fun w h => alive10_ok w) ?_
      repeat' first
        | refine k_then ?_
        | refine s_nil ?_
        | refine s_assign (by exact rfl) (by exact rfl) ?_
        | refine c_ret ?_
        | refine k_then_ret ?_
        | fail
      refine ret1 [] rfl rfl (by exact rfl) ⟨rfl, rfl⟩
  · repeat' first
      | refine s_move (by exact rfl) (by exact rfl) ?_
      | refine s_not (by exact rfl) (by exact rfl) ?_
      | refine w_move (by exact rfl) (by exact rfl) (by exact rfl) (by exact rfl) ?_
      | refine w_ldk_box (by exact rfl) (by exact rfl) (by exact rfl) (by exact rfl) (by exact .head _) (by exact rfl) (by exact rfl) ?_
      | refine g_on (by exact rfl) (by exact rfl) ?_
      | fail
    refine s_call (by exact rfl) (by exact rfl) (fun w h => refPlane_no n v es vr hr0 ls w hs (ro_old h hr) (by omega) (rosI_old h hR) hk) ?_
    repeat' first
      | refine k_then ?_
      | refine c_seq ?_
      | refine c_region ?_
      | refine s_nil ?_
      | refine s_pick_f (by exact rfl) (by exact rfl) (by exact rfl) ?_
      | (refine c_cond_p (by exact rfl) (fun h => ?_) (fun h => ?_) <;> try (exfalso; omega))
      | refine w_neq (by exact rfl) (by exact rfl) (by exact rfl) (by exact rfl) (by exact rfl) ?_
      | fail
    refine s_call (vs := []) (by exact rfl) (by exact rfl) (fun w h => alive10_ok w) ?_
    repeat' first
      | refine k_then ?_
      | refine s_nil ?_
      | refine s_assign (by exact rfl) (by exact rfl) ?_
      | refine c_ret ?_
      | refine k_then_ret ?_
      | fail
    refine ret1 [] rfl rfl (by exact rfl) ⟨rfl, rfl⟩
end Go.Proofs.Ytpajjnkmaebhcaa
end
section
namespace Go.Proofs.Ytpajjnkmaebhcaa
open Go.ChangeShapes Go.WideShapes Go.ChangeAt Go.RowKit Go.Joins Go.Deep Go.Sl Fil
set_option maxRecDepth 100000
set_option linter.unusedVariables false
set_option linter.unusedSimpArgs false
theorem row_own : ownKnob Try.prog.godebug = none := by kernel_rfl
theorem row_laid : laidOutB Try.prog = true := by kernel_rfl
theorem cells_graph : Try.prog.cellsOf 24 = 2 := by kernel_rfl
theorem cells_edge : Try.prog.cellsOf 60 = 3 := by kernel_rfl
theorem cells_int : Try.prog.cellsOf 3 = 1 := by kernel_rfl
section
variable {H : Type} {enc : TypeId × Value → H}
theorem slice_spot {P : Program} {w : World} {r : Reach} {base : Nat} {t e : TypeId} {a : Addr} {len cap : Nat} (hu : P.underlying t = some (.slice e)) (h : Cell.okWide P w r base t (.slice (some a) len cap)) : a.spot = none := by
  simp only [Cell.okWide, hu, Cell.ok, World.has] at h
  exact h.2.2.2.1
theorem es_list {n : Nat} {f : Nat → Nat → Value} (h : ∀ i, i < n → ∃ a b c, f i 0 = .int .i64 a ∧ f i 1 = .int .i64 b ∧ f i 2 = .int .i64 c) : ∃ es : List E, es.length = n ∧ ∀ (i : Nat) j u, i < n → j < 3 → (esV es)[i * 3 + j]? = some u → u = f i j := by
  induction n with
  | zero => exact ⟨[], rfl, fun i j u hi => by omega⟩
  | succ n ih =>
    obtain ⟨es, h1, h2⟩ := ih fun i hi => h i (by omega)
    obtain ⟨a, b, c, ha, hb, hc⟩ := h n (by omega)
    refine ⟨es ++ [(a, b, c)], by simp [h1], fun i j u hi hj hu => ?_⟩
    rw [esV_snoc] at hu
    have hl := esV_length es
    by_cases hin : i < n
    · rw [List.getElem?_append_left (by omega)] at hu
      exact h2 i j u hin hj hu
    · obtain rfl : i = n := by omega
      rw [List.getElem?_append_right (by omega), show i * 3 + j - (esV es).length = j from by omega] at hu
      match j, hj with
      | 0, _ => simp [eV] at hu; rw [← hu, ha]
      | 1, _ => simp [eV] at hu; rw [← hu, hb]
      | 2, _ => simp [eV] at hu; rw [← hu, hc]
theorem open_edges {W : World} {base fuel : Nat} {v : Value} {y : DataW H × List MemPlace} (hv : Cell.okWide Try.prog W .any base 22 v) (h : DataW.trod enc Try.prog W 0 (fun _ => true) true fuel 22 [v] = some y) :
    ∃ es : List E, Shp v es.length ∧ RO W No v (esV es) := by
  rcases open_slice Try.underlying22 h with ⟨hcs, _⟩ | ⟨a, len, cap, m, n, D, Pl, hcs, _, hl, hm, hmm, _, hx⟩
  · simp only [List.cons.injEq, and_true] at hcs
    subst hcs
    exact ⟨[], ⟨by simp [maxLen], .inl ⟨rfl, rfl⟩⟩, RO.of_rd fun j u hj => by simp [esV] at hj⟩
  · simp only [List.cons.injEq, and_true] at hcs
    subst hcs
    have hsp := slice_spot Try.underlying22 hv
    obtain ⟨g, off, sp⟩ := a
    dsimp only at hsp
    subst hsp
    simp only [if_true] at hmm
    subst hmm
    have key : ∀ i, i < len → ∃ a b c, W.cell? ⟨g, off + (i * 3 + 0), none⟩ = some (.int .i64 a) ∧ W.cell? ⟨g, off + (i * 3 + 1), none⟩ = some (.int .i64 b) ∧ W.cell? ⟨g, off + (i * 3 + 2), none⟩ = some (.int .i64 c) := by
      intro i hi
      obtain ⟨cs, h1, h2⟩ := hx i (by omega)
      rw [cells_edge] at h1
      obtain ⟨_, hlen, hc⟩ := World.cells?_some h1
      obtain ⟨y0, y1, y2, k, _, _, t0, t1, t2⟩ := trod_struct3 Try.underlying60 h2
      obtain ⟨a, e0, -, -⟩ := DataW.trod_int Try.underlying3 t0
      obtain ⟨b, e1, -, -⟩ := DataW.trod_int Try.underlying3 t1
      obtain ⟨c, e2, -, -⟩ := DataW.trod_int Try.underlying2 t2
      match cs, hlen, hc, e0, e1, e2 with
      | [x0, x1, x2], _, hc, e0, e1, e2 =>
        have c0 := hc 0 (by omega)
        have c1 := hc 1 (by omega)
        have c2 := hc 2 (by omega)
        have f0 : x0 = .int .i64 a := by
          have : [x0] = [.int .i64 a] := e0
          simpa using this
        have f1 : x1 = .int .i64 b := by
          have : [x1] = [.int .i64 b] := e1
          simpa using this
        have f2 : x2 = .int .i64 c := by
          have : [x2] = [.int .i64 c] := e2
          simpa using this
        subst f0 f1 f2
        refine ⟨a, b, c, ?_, ?_, ?_⟩
        · rw [Deep.add_add] at c0
          rw [show (⟨g, off + (i * 3 + 0), none⟩ : Addr) = (⟨g, off, none⟩ : Addr).add (i * 3 + 0) from by simp [Addr.add]]
          exact c0
        · rw [Deep.add_add] at c1
          rw [show (⟨g, off + (i * 3 + 1), none⟩ : Addr) = (⟨g, off, none⟩ : Addr).add (i * 3 + 1) from by simp [Addr.add]]
          exact c1
        · rw [Deep.add_add] at c2
          rw [show (⟨g, off + (i * 3 + 2), none⟩ : Addr) = (⟨g, off, none⟩ : Addr).add (i * 3 + 2) from by simp [Addr.add]]
          exact c2
    obtain ⟨es, he1, he2⟩ := es_list (n := len) (f := fun i j => (W.cell? ⟨g, off + (i * 3 + j), none⟩).getD undef) (fun i hi => by
      obtain ⟨a, b, c, h0, h1, h2⟩ := key i hi
      exact ⟨a, b, c, congrArg (fun x => Option.getD x undef) h0, congrArg (fun x => Option.getD x undef) h1, congrArg (fun x => Option.getD x undef) h2⟩)
    subst he1
    refine ⟨es, ⟨by omega, .inr (.inl ⟨g, off, m, rfl, hl, hm⟩)⟩, RO.of_rd fun j u hj => ⟨g, off, es.length, m, rfl, ?_⟩⟩
    have hlt := (List.getElem?_eq_some_iff.1 hj).1
    rw [esV_length] at hlt
    have hd : j / 3 * 3 + j % 3 = j := by omega
    have hu := he2 (j / 3) (j % 3) u (by omega) (by omega) (by rw [hd]; exact hj)
    rw [hd] at hu
    obtain ⟨a, b, c, h0, h1, h2⟩ := key (j / 3) (by omega)
    have hex : ∃ x, W.cell? ⟨g, off + j, none⟩ = some x := by
      have : j % 3 = 0 ∨ j % 3 = 1 ∨ j % 3 = 2 := by omega
      rcases this with h | h | h
      · exact ⟨_, by rw [← hd, h]; exact h0⟩
      · exact ⟨_, by rw [← hd, h]; exact h1⟩
      · exact ⟨_, by rw [← hd, h]; exact h2⟩
    obtain ⟨x, hx⟩ := hex
    rw [hx] at hu ⊢
    rw [hu]
    rfl
theorem open_graph {W : World} {base : Nat} {v : Value} {d : DataW H} {p : List MemPlace} (hv : Value.okWide Try.prog W .any base 24 v) (h : DataW.Trod enc Try.prog W 0 (fun _ => true) true 24 v d p) :
    ∃ (n : Int) (u : Value) (es : List E), v = .agg #[.int .i64 n, u] ∧ Shp u es.length ∧ RO W No u (esV es) := by
  obtain ⟨c0, c1, y0, y1, m, rfl, -, -, hy0, hy1⟩ := open_agg2 Try.underlying24 (by kernel_rfl) cells_graph hv h
  obtain ⟨a, e0, -, -⟩ := DataW.trod_int Try.underlying3 hy0
  simp only [List.cons.injEq, and_true] at e0
  subst e0
  have hc : Cell.okWide Try.prog W .any base 22 c1 := by
    simp only [Value.okWide, Try.underlying24] at hv
    obtain ⟨cs, hcs, _, ts, hts, _, hall⟩ := hv
    obtain rfl : cs = #[.int .i64 a, c1] := by simpa using hcs.symm
    have e : Try.prog.cellTypes Try.prog.depth 24 = some [3, 22] := by kernel_rfl
    rw [e] at hts
    obtain rfl : [3, 22] = ts := by simpa using hts
    obtain ⟨u, hu, hok⟩ := hall 1 c1 rfl
    obtain rfl : 22 = u := by simpa using hu
    exact hok
  obtain ⟨es, h1, h2⟩ := open_edges hc hy1
  exact ⟨a, c1, es, rfl, h1, h2⟩
end
end Go.Proofs.Ytpajjnkmaebhcaa
end
section
namespace Go.Proofs.Ytpajjnkmaebhcaa
open Go.ChangeShapes Go.WideShapes Go.ChangeAt Go.RowKit Go.Joins Go.Deep Go.Sl Fil
set_option maxRecDepth 100000
set_option linter.unusedVariables false
set_option linter.unusedSimpArgs false
section
variable {H : Type} {enc : TypeId × Value → H}
theorem pick_lists {n : Nat} {P : Nat → Value → List Int → Prop} (h : ∀ i, i < n → ∃ x l, P i x l) : ∃ (hs : List Value) (ls : List (List Int)), hs.length = n ∧ ls.length = n ∧ ∀ (i : Nat) x l, hs[i]? = some x → ls[i]? = some l → P i x l := by
  induction n with
  | zero => exact ⟨[], [], rfl, rfl, fun i x l h => by simp at h⟩
  | succ n ih =>
    obtain ⟨hs, ls, h1, h2, h3⟩ := ih fun i hi => h i (by omega)
    obtain ⟨x, l, hp⟩ := h n (by omega)
    refine ⟨hs ++ [x], ls ++ [l], by simp [h1], by simp [h2], fun i y m hy hm => ?_⟩
    by_cases hi : i < n
    · rw [List.getElem?_append_left (by omega)] at hy hm
      exact h3 i y m hy hm
    · have hb := (List.getElem?_eq_some_iff.1 hy).1
      simp only [List.length_append, List.length_cons, List.length_nil] at hb
      obtain rfl : i = n := by omega
      rw [List.getElem?_append_right (by omega), show i - hs.length = 0 by omega] at hy
      rw [List.getElem?_append_right (by omega), show i - ls.length = 0 by omega] at hm
      simp at hy hm
      subst hy hm
      exact hp
theorem weights_all {P : Program} {e : TypeId} : ∀ {l : List (DataW H)} {d : DataW H}, d ∈ l → ∀ n ∈ d.weights P e, n ∈ DataW.weightsAll P e l
  | x :: l, d, h, n, hn => by
    rw [DataW.weightsAll]
    rcases List.mem_cons.1 h with rfl | h
    · exact List.mem_append.2 (.inl hn)
    · exact List.mem_append.2 (.inr (weights_all h n hn))
theorem okc_rows {W : World} {base : Nat} {v x : Value} (hc : Cell.okWide Try.prog W .any base 25 v) (h : v.cells.toList = [x]) : v = x := by
  cases v with
  | agg cs => simp [Cell.okWide, Try.underlying25, Cell.ok] at hc
  | _ => simpa [Value.cells] using h
theorem open_rows {W : World} {base : Nat} {v : Value} {d : DataW H} {p : List MemPlace} (hv : Value.okWide Try.prog W .any base 25 v) (h : DataW.Trod enc Try.prog W 0 (fun _ => true) true 25 v d p) (hz : ∀ n ∈ d.weights Try.prog 25, n ≤ reachBytes) :
    ∃ (hs : List Value) (ls : List (List Int)), ROsI W No v hs ls ∧ ∀ l ∈ ls, l.length ≤ 17592186044416 := by
  obtain ⟨fuel, hf⟩ := h
  have hc : Cell.okWide Try.prog W .any base 25 v := by
    simp only [Value.okWide, Try.underlying25] at hv
    exact hv
  rcases open_slice1 Try.underlying25 (by kernel_rfl) hf with ⟨hcs, _⟩ | ⟨a, len, cap, m, n, V, D, Pl, hcs, _, hl, hm, hmm, hxd, hx⟩
  · have hv0 : v = .slice none 0 0 := okc_rows hc hcs
    subst hv0
    exact ⟨[], [], ⟨⟨by simp [maxLen], .inl ⟨rfl, rfl⟩⟩, rfl, RO.of_rd fun j u hj => by simp at hj, fun i x l hi => by simp at hi⟩, by simp⟩
  · have hv0 : v = .slice (some a) len cap := okc_rows hc hcs
    subst hv0
    have hsp := slice_spot Try.underlying25 hc
    obtain ⟨g, off, sp⟩ := a
    dsimp only at hsp
    subst hsp
    rw [if_pos rfl] at hmm
    subst hmm
    obtain ⟨hs, ls, h1, h2, h3⟩ := pick_lists (n := len) (P := fun i x l => W.cell? ⟨g, off + i, none⟩ = some x ∧ (Shp x l.length ∧ RO W No x (iV l)) ∧ l.length ≤ 17592186044416) fun i hi => by
      obtain ⟨c1, c2⟩ := hx i (by omega)
      rw [show (⟨g, off, none⟩ : Addr).add i = ⟨g, off + i, none⟩ from by simp [Addr.add]] at c1
      rcases open_ints Try.underlying36 Try.underlying3 cells_int c2 with ⟨e, _⟩ | ⟨a', len', cap', zs, e, _, hl', hm', hzl, hdd, hx', _⟩
      · obtain e : V i = .slice none 0 0 := by simpa using e
        rw [e] at c1
        exact ⟨_, [], c1, ⟨⟨by simp [maxLen], .inl ⟨rfl, rfl⟩⟩, RO.of_rd fun j u hj => by simp [iV] at hj⟩, by simp⟩
      · obtain e : V i = .slice (some a') len' cap' := by simpa using e
        rw [e] at c1
        rw [if_pos rfl] at hzl
        by_cases h0 : cap' = 0
        · obtain rfl : len' = 0 := by omega
          subst h0
          exact ⟨_, [], c1, ⟨⟨by simp [maxLen], .inr (.inr ⟨⟨_, rfl⟩, rfl⟩)⟩, RO.of_rd fun j u hj => by simp [iV] at hj⟩, by simp⟩
        · have hsp := World.cell?_spot (hx' 0 (by omega))
          obtain ⟨g', off', sp'⟩ := a'
          obtain rfl : sp' = none := by simpa [Addr.add] using hsp
          have htl : (zs.take len').length = len' := by rw [List.length_take]; omega
          have hzz : len' ≤ 17592186044416 := by
            have e1 : D i = .slice (lits .i64 (zs.take len')) (lits .i64 (zs.drop len')) := congrArg Prod.fst hdd
            have e2 : (8 : Nat) = Try.prog.bytesOf 3 := by kernel_rfl
            have h5 : (zs.length * 8) ∈ (D i).weights Try.prog 36 := by
              rw [e1, DataW.weights, Try.underlying36]
              refine List.mem_cons.2 (.inl ?_)
              rw [← e2]
              simp [lits]
              omega
            have h6 : (D i) ∈ (List.range len).map D := List.mem_map.2 ⟨i, List.mem_range.2 hi, rfl⟩
            have h7 := hz _ (by
              rw [show d = _ from congrArg Prod.fst hxd, DataW.weights, Try.underlying25]
              exact List.mem_cons.2 (.inr (List.mem_append.2 (.inl (weights_all h6 _ h5)))))
            simp only [reachBytes] at h7
            omega
          refine ⟨_, zs.take len', c1, ⟨⟨by rw [htl]; omega, .inr (.inl ⟨g', off', cap', by rw [htl], by rw [htl]; exact hl', hm'⟩)⟩, RO.of_rd fun j u hj => ⟨g', off', len', cap', rfl, ?_⟩⟩, by rw [htl]; exact hzz⟩
          have hlt := (List.getElem?_eq_some_iff.1 hj).1
          simp only [iV, List.length_map, htl] at hlt
          have h2 := hx' j (by omega)
          rw [show (⟨g', off', none⟩ : Addr).add j = ⟨g', off' + j, none⟩ from by simp [Addr.add]] at h2
          rw [h2, ← hj]
          simp only [iV, List.getElem?_map, List.getElem?_take, if_pos hlt]
          rw [List.getD_eq_getElem?_getD, List.getElem?_eq_getElem (by omega)]
          rfl
    refine ⟨hs, ls, ⟨⟨by rw [h2]; omega, .inr (.inl ⟨g, off, m, by rw [h2], by rw [h2]; exact hl, hm⟩)⟩, by omega, RO.of_rd fun j u hj => ⟨g, off, len, m, rfl, ?_⟩, fun i x l hi hli => (h3 i x l hi hli).2.1⟩, fun l hl => ?_⟩
    rotate_left
    · obtain ⟨i, hi⟩ := List.getElem?_of_mem hl
      have hb := (List.getElem?_eq_some_iff.1 hi).1
      exact (h3 i _ l (List.getElem?_eq_getElem (show i < hs.length by omega)) hi).2.2
    have hlt := (List.getElem?_eq_some_iff.1 hj).1
    obtain ⟨l, hl2⟩ : ∃ l, ls[j]? = some l := ⟨_, List.getElem?_eq_getElem (by omega)⟩
    exact (h3 j u l hj hl2).1
end
end Go.Proofs.Ytpajjnkmaebhcaa
end
section
set_option linter.unusedVariables false
namespace Go.Sl
open Go Go.RowKit Fil
/-- rows that are read, by rows of darts -/
structure ROsD (w : World) (S : FS) (v : Value) (hs : List Value) (ls : List (List (Nat × Nat))) : Prop where
  shp : Shp v ls.length
  len : hs.length = ls.length
  ro : RO w S v hs
  kid : ∀ (i : Nat) h l, hs[i]? = some h → ls[i]? = some l → Shp h l.length ∧ RO w S h (dsV l)
theorem rosD_own {w0 w : World} {S0 : FS} {L : List HP} {v : Value} {e : TypeId} {m : Nat} {hs : List Value} {ls : List (List (Nat × Nat))} (h : St w0 S0 L w) (hL : rowHP v e 1 m hs ∈ L) (hm : m = ls.length) (hK : starHP (kids rowD hs ls) ∈ L) : ROsD w No v hs ls := by
  obtain ⟨S, hsat⟩ := h.mem hL
  have hl : hs.length = m := by have := hsat.1; omega
  refine ⟨hm ▸ rowHP_shp hsat, by omega, RO.of_rd (rowHP_rd hsat), fun i x l h1 h2 => ?_⟩
  have hk : rowHP x 43 2 l.length (dsV l) ∈ kids rowD hs ls := kids_mem (f := rowD) h1 h2
  obtain ⟨S, hsat⟩ := h.kid hK hk
  exact ⟨rowHP_shp hsat, RO.of_rd (rowHP_rd hsat)⟩
end Go.Sl
namespace Fil
theorem faceOf_at {F : List (List (Nat × Nat))} {d : Nat × Nat} {i : Nat} {f : List (Nat × Nat)} (h1 : i ≤ faceOf F d) (h2 : F[i]? = some f) (h3 : d ∈ f) : i = faceOf F d := by
  refine Decidable.byContradiction fun hne => ?_
  have hlt : i < F.findIdx fun f => decide (d ∈ f) := by rw [faceOf] at h1 hne; omega
  have := List.not_of_lt_findIdx hlt
  rw [(List.getElem?_eq_some_iff.1 h2).2] at this
  rw [decide_eq_true h3] at this
  exact absurd this (by simp)
end Fil
namespace Go.Proofs.Ytpajjnkmaebhcaa
open Go Go.RowKit Go.Sl Fil
set_option maxRecDepth 100000
set_option maxHeartbeats 8000000
set_option linter.unusedVariables false
set_option linter.unusedSimpArgs false
attribute [local irreducible] Code.wp wpList bodyPost wpQuiet Exit.then Exit.inBlock Post wpAnyH wpOp
theorem at_ok (v : Value) (hf : List Value) (F : List (List (Nat × Nat))) (d : Nat × Nat) (w : World) (hR : ROsD w No v hf F) (hd : d ∈ F.flatten) :
    Calls Try.prog 62 #[v, .agg #[.int .i64 (d.1 : Int), .int .i64 (d.2 : Int)]] w (Post w No (Just (.int .i64 (faceOf F d : Int)))) := by
  have hsr := hR.shp
  have hm := hsr.1
  have hfl := hR.len
  have hrr := hR.ro
  simp only [maxLen] at hm
  obtain ⟨ff, hff, hdf⟩ := faceOf_spec hd
  have hfF := (List.getElem?_eq_some_iff.1 hff).1
  refine enter0 (vs := [_, _]) Try.func62 rfl Try.ntmps62 rfl ?_
  repeat' first
    | refine k_then ?_
    | refine c_seq ?_
    | refine c_region ?_
    | refine s_nil ?_
    | refine s_assign (by exact rfl) (by exact rfl) ?_
    | refine o_box (by exact rfl) (by exact rfl) (fun b => ?_)
    | refine c_block ?_
    | fail
  refine c_loop (fun k : Nat => k ≤ faceOf F d) (fun k => [(0, v), (3, .pointer (some ⟨b, 0, none⟩)), (4, .int .i64 0), (5, .int .i64 (k : Int))]) (fun _ => [boxHP b 43 (Value.agg #[.int .i64 (d.1 : Int), .int .i64 (d.2 : Int)]).cells.toList]) (fun k => F.length - k) 0 [0] (Nat.zero_le _) rfl ⟨rfl, rfl, rfl, rfl, trivial⟩ ?_
  rintro i hi
  obtain ⟨f, hf1⟩ : ∃ f, F[i]? = some f := ⟨_, List.getElem?_eq_getElem (by omega)⟩
  obtain ⟨hd0, hhd⟩ : ∃ hd, hf[i]? = some hd := ⟨_, List.getElem?_eq_getElem (by omega)⟩
  have hhd1 : hf[i * 1]? = some hd0 := by rw [Nat.mul_one]; exact hhd
  obtain ⟨hs0, hr0⟩ := hR.kid i hd0 f hhd hf1
  have hm0 := hs0.1
  simp only [maxLen] at hm0
  have hil : i < F.length := by omega
  repeat' first
    | refine k_then ?_
    | refine c_seq ?_
    | refine c_region ?_
    | refine s_nil ?_
    | refine s_move (by exact rfl) (by exact rfl) ?_
    | refine s_assign (by exact rfl) (by exact rfl) ?_
    | refine s_lss (by exact rfl) (by exact rfl) (by exact rfl) ?_
    | refine s_len (by exact rfl) (by exact rfl) (by assumption) ?_
    | refine c_block ?_
    | refine c_skip ?_
    | (refine c_cond_p (by exact rfl) (fun h => ?_) (fun h => ?_) <;> try (exfalso; omega))
    | fail
  refine c_loop (fun k : Nat => k ≤ f.length ∧ ∀ z ∈ f.take k, z ≠ d) (fun k => [(0, v), (3, .pointer (some ⟨b, 0, none⟩)), (4, .int .i64 0), (5, .int .i64 (i : Int)), (6, .int .i64 (k : Int))]) (fun _ => [boxHP b 43 (Value.agg #[.int .i64 (d.1 : Int), .int .i64 (d.2 : Int)]).cells.toList]) (fun k => f.length - k) 0 [0] ⟨Nat.zero_le _, by simp⟩ rfl ⟨rfl, rfl, rfl, rfl, rfl, trivial⟩ ?_
  rintro k ⟨hk, hq⟩
  by_cases hlt : k < f.length
  · obtain ⟨z, hz⟩ : ∃ z, f[k]? = some z := ⟨_, List.getElem?_eq_getElem hlt⟩
    have hE := dsV_at hz
    repeat' first
      | refine k_then ?_
      | refine c_seq ?_
      | refine c_region ?_
      | refine s_nil ?_
      | refine s_move (by exact rfl) (by exact rfl) ?_
      | refine s_lss (by exact rfl) (by exact rfl) (by exact rfl) ?_
      | refine s_len (by exact rfl) (by exact rfl) (by assumption) ?_
      | refine s_idx (by exact rfl) (by exact rfl) (by exact rfl) (by assumption) (by first | assumption | omega) ?_
      | refine s_ld_ro (by exact rfl) (by exact rfl) (by assumption) (by assumption) ?_
      | refine c_block ?_
      | refine c_skip ?_
      | (refine c_cond_p (by exact rfl) (fun h => ?_) (fun h => ?_) <;> try (exfalso; omega))
      | fail
    refine p_begin0 [(0, true), (1, true), (2, true), (3, true), (4, true), (5, true), (6, true), (7, true), (8, true)] (by kernel_rfl) ?_
    repeat' first
      | (refine p_at (by exact rfl) ?_
         first
          | refine t_move (by exact rfl) (by exact rfl) (by exact fun _ h => h) ?_
          | refine t_idx (by exact rfl) (by exact rfl) (by exact rfl) (by assumption) (by first | assumption | omega) (by exact fun _ h => h) ?_
          | refine t_ldk_box (by exact rfl) (by exact rfl) (by exact .head _) (by exact rfl) (by exact rfl) (by exact fun _ h => h) ?_
          | refine t_ld_ro (by exact rfl) (by exact rfl) (by assumption) (by assumption) (by exact fun _ h => h) ?_
          | refine t_ldk_ro (by exact rfl) (by exact rfl) (by assumption) (by decide) (by assumption) (by exact rfl) (by exact fun _ h => h) ?_
          | fail)
      | fail
    refine p_at (by exact rfl) ?_
    refine t_eql2 (by exact rfl) (by exact rfl) (by exact rfl) (by exact fun _ h => h) ?_
    repeat' first
      | refine p_nil ?_
      | fail
    repeat' first
      | refine k_then ?_
      | refine c_seq ?_
      | refine c_region ?_
      | refine s_nil ?_
      | refine s_move (by exact rfl) (by exact rfl) ?_
      | refine s_assign (by exact rfl) (by exact rfl) ?_
      | refine s_add (by exact rfl) (by exact rfl) (by exact rfl) (by omega) ?_
      | refine c_skip ?_
      | refine c_ret ?_
      | refine k_then_ret ?_
      | refine k_blk ?_
      | refine k_blk_ret ?_
      | (refine c_cond_p (by exact rfl) (fun h => ?_) (fun h => ?_) <;> try (exfalso; omega))
      | fail
    · have e : z = d := Prod.ext (by omega) (by omega)
      have e2 := faceOf_at hi hf1 (e ▸ List.mem_of_getElem? hz)
      refine ret1 [] rfl rfl rfl ⟨by rw [← e2], rfl⟩
    · refine c_round (k + 1) [0] (by exact rfl) ⟨rfl, rfl, rfl, rfl, rfl, trivial⟩ ⟨by omega, fun y hy => ?_⟩ (by omega)
      rw [List.take_add_one, hz] at hy
      rcases List.mem_append.1 hy with hy | hy
      · exact hq y hy
      · obtain rfl : y = z := by simpa using hy
        intro e
        subst e
        exact h ⟨rfl, rfl⟩
  · rw [List.take_of_length_le (by omega)] at hq
    have hne : i ≠ faceOf F d := fun e => by
      rw [← e, hf1] at hff
      obtain rfl := Option.some.inj hff
      exact hq d hdf rfl
    repeat' first
      | refine k_then ?_
      | refine c_seq ?_
      | refine c_region ?_
      | refine s_nil ?_
      | refine s_move (by exact rfl) (by exact rfl) ?_
      | refine s_assign (by exact rfl) (by exact rfl) ?_
      | refine s_lss (by exact rfl) (by exact rfl) (by exact rfl) ?_
      | refine s_add (by exact rfl) (by exact rfl) (by exact rfl) (by omega) ?_
      | refine s_len (by exact rfl) (by exact rfl) (by assumption) ?_
      | refine s_idx (by exact rfl) (by exact rfl) (by exact rfl) (by assumption) (by first | assumption | omega) ?_
      | refine s_ld_ro (by exact rfl) (by exact rfl) (by assumption) (by assumption) ?_
      | refine c_exit ?_
      | refine k_then_exit ?_
      | refine k_blk ?_
      | refine k_blk_eq ?_
      | (refine c_cond_p (by exact rfl) (fun h => ?_) (fun h => ?_) <;> try (exfalso; omega))
      | fail
    refine c_round (i + 1) [0] (by exact rfl) ⟨rfl, rfl, rfl, rfl, trivial⟩ (by omega) (by omega)
theorem refDual_ok (n : Int) (v : Value) (es : List E) (vr : Value) (hr0 : List Value) (R : List (List Nat)) (w : World) (hs : Shp v es.length) (hr : RO w No v (esV es)) (hG : RightG n es) (hR : ROs w No vr hr0 R) (hRot : RotL n.toNat (tn es) R) :
    Calls Try.prog 36 #[.agg #[.int .i64 n, v], vr] w (Post w No fun r L' => ∃ ve : Value, r = .agg #[.int .i64 ((facesR n.toNat (tn es) R).length : Int), ve] ∧ L' = [rowHP ve 60 3 es.length (esV (dualL (facesR n.toNat (tn es) R) es))]) := by
  have hsr := hR.shp
  have hrr := hR.ro
  have hmany := hG.many
  have hdec := facesR_dec hG hRot
  have hin : ∀ e ∈ es, (e.1.toNat, e.2.1.toNat) ∈ (facesR n.toNat (tn es) R).flatten ∧ (e.2.1.toNat, e.1.toNat) ∈ (facesR n.toNat (tn es) R).flatten := fun e he => by
    have h1 : (e.1.toNat, e.2.1.toNat) ∈ tn es := List.mem_map.2 ⟨e, he, rfl⟩
    exact ⟨hdec.perm.mem_iff.2 ((dart_in hG hRot).2 (((hRot.sys hG).ed _ _).2 (.inl h1))), hdec.perm.mem_iff.2 ((dart_in hG hRot).2 (((hRot.sys hG).ed _ _).2 (.inr h1)))⟩
  refine enter0 (vs := [_, _]) Try.func36 rfl Try.ntmps36 rfl ?_
  repeat' first
    | refine k_then ?_
    | refine c_seq ?_
    | refine c_region ?_
    | refine s_nil ?_
    | refine s_move (by exact rfl) (by exact rfl) ?_
    | refine s_ldk_box (by exact rfl) (by exact rfl) (by exact .tail _ (.head _)) (by exact rfl) (by exact rfl) ?_
    | refine o_box (by exact rfl) (by exact rfl) (fun b => ?_)
    | refine o_alloc (by exact rfl) (fun b => ?_)
    | fail
  rename_i bg
  revert b; intro b4
  refine o_call (by exact rfl) (by exact rfl) (fun w h => refFaces_ok n v es vr hr0 R w hs (ro_old h hr) hG (ros_old h hR) hRot) ?_
  rintro vf _ ⟨hf, hfl, rfl⟩
  refine know_row (v := vf) (by exact .head _) fun hvf _ => ?_
  generalize facesR n.toNat (tn es) R = Fs at *
  repeat' first
    | refine k_then ?_
    | refine c_seq ?_
    | refine c_region ?_
    | refine s_nil ?_
    | refine s_move (by exact rfl) (by exact rfl) ?_
    | refine s_assign (by exact rfl) (by exact rfl) ?_
    | refine s_len (by exact rfl) (by exact rfl) (by assumption) ?_
    | fail
  refine o_build (cs := [.int .i64 (Fs.length : Int), .slice none 0 0]) [(0, .int .i64 (Fs.length : Int), [.int .i64 (Fs.length : Int)])] (by exact rfl) (by exact rfl) (by simp [Value.cells]) (by exact rfl) ?_
  repeat' first
    | refine o_alloc (by exact rfl) (fun b => ?_)
    | fail
  revert b; intro b6
  refine o_stk_box (i := 0) (us := [.int .i64 (Fs.length : Int), .slice none 0 0]) (by exact rfl) (by exact rfl) (by exact rfl) (by exact rfl) (by exact rfl) (by simp [Value.oneCell']) (by simp [Value.cells]) ?_
  repeat' first
    | refine k_then ?_
    | refine c_seq ?_
    | refine c_region ?_
    | refine s_nil ?_
    | refine s_assign (by exact rfl) (by exact rfl) ?_
    | refine c_block ?_
    | fail
  refine c_nil 60 3 ?_
  refine c_loop (fun x : Nat × Value => x.1 ≤ es.length) (fun x => [(2, .pointer (some ⟨bg, 0, none⟩)), (4, .pointer (some ⟨b4, 0, none⟩)), (5, vf), (6, .pointer (some ⟨b6, 0, none⟩)), (7, .int .i64 (x.1 : Int))])
    (fun x => [rowHP x.2 60 3 x.1 (esV (dualL Fs (es.take x.1))), boxHP b6 24 [.int .i64 (Fs.length : Int), x.2], rowHP vf 41 1 Fs.length hf, starHP (kids rowD hf Fs), boxHP b4 24 [.int .i64 0, .slice none 0 0], boxHP bg 24 [.int .i64 n, v]]) (fun x => es.length - x.1) (0, .slice none 0 0) [0, 0, 0, 0, 0, 0] (Nat.zero_le _) (by exact rfl) ⟨rfl, rfl, rfl, rfl, rfl, trivial⟩ ?_
  rintro ⟨k, ve⟩ hk
  dsimp only at hk ⊢
  refine know_row (v := ve) (.head _) fun hve _ => ?_
  by_cases hlt : k < es.length
  · obtain ⟨e, he⟩ : ∃ e, es[k]? = some e := ⟨_, List.getElem?_eq_getElem hlt⟩
    have hE := esV_at he
    have htk := dualL_take (F := Fs) he
    obtain ⟨hin1, hin2⟩ := hin e (List.mem_of_getElem? he)
    obtain ⟨o1, o2, o3, o4, _⟩ := hG.ok e (List.mem_of_getElem? he)
    have hd1 : e.1 = (((e.1.toNat, e.2.1.toNat) : Nat × Nat).1 : Int) := by dsimp only; omega
    have hd2 : e.2.1 = (((e.1.toNat, e.2.1.toNat) : Nat × Nat).2 : Int) := by dsimp only; omega
    have hd3 : e.2.1 = (((e.2.1.toNat, e.1.toNat) : Nat × Nat).1 : Int) := by dsimp only; omega
    have hd4 : e.1 = (((e.2.1.toNat, e.1.toNat) : Nat × Nat).2 : Int) := by dsimp only; omega
    repeat' first
      | refine k_then ?_
      | refine c_seq ?_
      | refine c_region ?_
      | refine s_nil ?_
      | refine s_move (by exact rfl) (by exact rfl) ?_
      | refine s_fa (by exact rfl) (by exact rfl) ?_
      | refine s_ld_box (by exact rfl) (by exact rfl) (by exact .tail _ (.tail _ (.tail _ (.tail _ (.tail _ (.head _)))))) (by exact rfl) ?_
      | refine s_lss (by exact rfl) (by exact rfl) (by exact rfl) ?_
      | refine s_len (by exact rfl) (by exact rfl) (by assumption) ?_
      | refine s_idx (by exact rfl) (by exact rfl) (by exact rfl) (by assumption) (by first | assumption | omega) ?_
      | refine s_ldk_ro (by exact rfl) (by exact rfl) (by assumption) (by decide) (by assumption) (by exact rfl) ?_
      | refine o_alloc (by exact rfl) (fun b => ?_)
      | refine c_block ?_
      | refine c_skip ?_
      | (refine c_cond_p (by exact rfl) (fun h => ?_) (fun h => ?_) <;> try (exfalso; omega))
      | fail
    refine o_stk_box (i := 0) (us := eV e) (by exact rfl) (by exact rfl) (by exact rfl) (by exact rfl) (by exact rfl) (by simp [eV, Value.oneCell']) (by simp [Value.cells]) ?_
    repeat' first
      | refine k_then ?_
      | refine s_nil ?_
      | fail
    refine c_pick [1, 0, 0, 0, 0, 0, 0] (by exact rfl) ?_
    refine p_begin2 [(0, true), (1, true), (2, true), (3, true), (4, true), (5, true), (6, true), (7, true), (9, true), (10, true), (11, true), (12, true), (13, true), (14, true), (16, true), (17, true), (8, false), (15, false), (18, true), (19, false), (20, false)] [(21, true), (22, false)] [boxHP b 60 (eV e), boxHP b6 24 [.int .i64 (Fs.length : Int), ve], rowHP vf 41 1 Fs.length hf, starHP (kids rowD hf Fs), boxHP b4 24 [.int .i64 0, .slice none 0 0], boxHP bg 24 [.int .i64 n, v]] (by kernel_rfl) ?_
    repeat' first
      | (refine p_at (by exact rfl) ?_
         first
          | refine t_move (by exact rfl) (by exact rfl) (by exact fun _ h => h.tl) ?_
          | refine t_fa (by exact rfl) (by exact rfl) (by exact fun _ h => h.tl) ?_
          | refine t_ld_box (by exact rfl) (by exact rfl) (by first | exact .head _ | exact .tail _ (.head _)) (by exact rfl) (by exact fun _ h => h.tl) ?_
          | fail)
      | fail
    refine p_buildt (cs := [.int .i64 e.1, .int .i64 e.2.1]) [(0, .int .i64 e.1, [.int .i64 e.1]), (1, .int .i64 e.2.1, [.int .i64 e.2.1])] (by exact rfl) (by exact rfl) (by exact rfl) (by simp [Value.cells]) ?_ (by exact fun _ h => h.tl) ?_
    · exact rfl
    repeat' first
      | (refine p_at (by exact rfl) ?_
         first
          | refine t_move (by exact rfl) (by exact rfl) (by exact fun _ h => h.tl) ?_
          | refine t_fa (by exact rfl) (by exact rfl) (by exact fun _ h => h.tl) ?_
          | refine t_ld_box (by exact rfl) (by exact rfl) (by exact .head _) (by exact rfl) (by exact fun _ h => h.tl) ?_
          | fail)
      | fail
    refine p_buildt (cs := [.int .i64 e.2.1, .int .i64 e.1]) [(0, .int .i64 e.2.1, [.int .i64 e.2.1]), (1, .int .i64 e.1, [.int .i64 e.1])] (by exact rfl) (by exact rfl) (by exact rfl) (by simp [Value.cells]) ?_ (by exact fun _ h => h.tl) ?_
    · exact rfl
    repeat' first
      | (refine p_at (by exact rfl) ?_
         first
          | refine t_fa (by exact rfl) (by exact rfl) (by exact fun _ h => h.tl) ?_
          | refine t_ld_box (by exact rfl) (by exact rfl) (by exact .head _) (by exact rfl) (by exact fun _ h => h.tl) ?_
          | fail)
      | fail
    refine p_call (gd := none) (vs := [vf, .agg #[.int .i64 e.1, .int .i64 e.2.1]]) (by exact rfl) rfl (by exact rfl) (fun w h => by
      have := at_ok vf hf Fs (e.1.toNat, e.2.1.toNat) w (rosD_own h (by exact .tail _ (.tail _ (.tail _ (.head _)))) rfl (by exact .tail _ (.tail _ (.tail _ (.tail _ (.head _)))))) hin1
      rw [← hd1, ← hd2] at this
      exact this) (by exact fun _ h => h.tl) ?_
    skip
    refine p_call (gd := none) (vs := [vf, .agg #[.int .i64 e.2.1, .int .i64 e.1]]) (by exact rfl) rfl (by exact rfl) (fun w h => by
      have := at_ok vf hf Fs (e.2.1.toNat, e.1.toNat) w (rosD_own h (by exact .tail _ (.tail _ (.tail _ (.head _)))) rfl (by exact .tail _ (.tail _ (.tail _ (.tail _ (.head _)))))) hin2
      rw [← hd3, ← hd4] at this
      exact this) (by exact fun _ h => h.tl) ?_
    skip
    refine p_buildt (cs := eV (dualE Fs e)) [(0, .int .i64 ((sidesE Fs e).1 : Int), [.int .i64 ((sidesE Fs e).1 : Int)]), (1, .int .i64 ((sidesE Fs e).2 : Int), [.int .i64 ((sidesE Fs e).2 : Int)]), (2, .int .i64 e.2.2, [.int .i64 e.2.2])] (by exact rfl) (by exact rfl) (by exact rfl) (by simp [Value.cells]) ?_ (by exact fun _ h => h.tl) ?_
    · exact rfl
    refine p_mk (sz := 3) [.agg (eV (dualE Fs e)).toArray] (by exact rfl) (by exact rfl) (by exact rfl) rfl (by simp [Value.cells, eV]) (by simp) (by simp) (fun _ _ h => h.tl.tl) fun v2 hv2 => ?_
    refine p_append_row (bytes := 24) (c := 1) (j := 1) (by exact rfl) (by exact rfl) (by exact rfl) (by exact rfl) (by exact rfl) (.head _) (by simp [Value.cells, eV]) (by simp [Value.cells, eV, Value.oneCell']) (by omega) (fun _ _ h => h.tl.tl) (fun v3 hv3 => ?_)
    refine p_nil ?_
    refine p_cut [rowHP vf 41 1 Fs.length hf, starHP (kids rowD hf Fs), boxHP b4 24 [.int .i64 0, .slice none 0 0], boxHP bg 24 [.int .i64 n, v]] (fun _ h => h.pick [4, 4, 4, 4] (by exact rfl)) ?_
    refine p_at (by exact rfl) ?_
    refine t_fa (by exact rfl) (by exact rfl) (fun _ h => h.pick [4, 4, 4, 4] (by exact rfl)) ?_
    refine p_st_box (j := 3) (by exact rfl) (by exact rfl) (by exact rfl) (by exact rfl) hv3.one (by simp) (fun _ h => h.pick [4, 4, 4, 4] (by exact rfl)) ?_
    refine p_nil ?_
    repeat' first
      | refine k_then ?_
      | refine c_region ?_
      | refine s_nil ?_
      | refine s_move (by exact rfl) (by exact rfl) ?_
      | refine s_assign (by exact rfl) (by exact rfl) ?_
      | refine s_add (by exact rfl) (by exact rfl) (by exact rfl) (by omega) ?_
      | refine k_blk ?_
      | fail
    refine c_round (k + 1, v3) [1, 2, 2, 2, 2, 2] ?_ ⟨rfl, rfl, rfl, rfl, rfl, trivial⟩ (by dsimp only; omega) (by dsimp only; omega)
    dsimp only
    rw [htk, esV_cat]
    exact rfl
  · repeat' first
      | refine k_then ?_
      | refine c_seq ?_
      | refine c_region ?_
      | refine s_nil ?_
      | refine s_move (by exact rfl) (by exact rfl) ?_
      | refine s_fa (by exact rfl) (by exact rfl) ?_
      | refine s_ld_box (by exact rfl) (by exact rfl) (by exact .tail _ (.tail _ (.tail _ (.tail _ (.tail _ (.head _)))))) (by exact rfl) ?_
      | refine s_lss (by exact rfl) (by exact rfl) (by exact rfl) ?_
      | refine s_len (by exact rfl) (by exact rfl) (by assumption) ?_
      | refine s_ldk_box (by exact rfl) (by exact rfl) (by exact .tail _ (.head _)) (by exact rfl) (by exact rfl) ?_
      | refine c_exit ?_
      | refine k_then_exit ?_
      | refine k_blk_eq ?_
      | (refine c_cond_p (by exact rfl) (fun h => ?_) (fun h => ?_) <;> try (exfalso; omega))
      | fail
    obtain rfl : k = es.length := by omega
    rw [List.take_length]
    refine o_stk_box (i := 4) (us := [.int .i64 (Fs.length : Int), ve]) (by exact rfl) (by exact rfl) (by exact rfl) (by exact rfl) (by exact rfl) (by
      intro u hu
      simp only [List.mem_cons, List.not_mem_nil, or_false] at hu
      rcases hu with rfl | rfl
      · rfl
      · exact hve.one) (by simp [Value.cells]) ?_
    repeat' first
      | refine k_then ?_
      | refine s_nil ?_
      | refine c_ret ?_
      | fail
    refine retL [.cell 4 24] [.agg #[.int .i64 (Fs.length : Int), ve]] [0] rfl ⟨res_cellk (tb := 24) (cs := [.int .i64 (Fs.length : Int), ve]) (k := 2) (off := 0) (us := [.int .i64 (Fs.length : Int), ve]) rfl (.tail _ (.tail _ (.tail _ (.tail _ (.head _))))) rfl rfl, trivial⟩ (by exact rfl) ⟨ve, rfl, rfl⟩
end Go.Proofs.Ytpajjnkmaebhcaa
end
section
set_option linter.unusedVariables false
namespace Go.Proofs.Ytpajjnkmaebhcaa
open Go Go.RowKit Go.Sl Fil
set_option maxRecDepth 100000
set_option maxHeartbeats 8000000
set_option linter.unusedVariables false
set_option linter.unusedSimpArgs false
attribute [local irreducible] Code.wp wpList bodyPost wpQuiet Exit.then Exit.inBlock Post wpAnyH wpOp
theorem Same4_ok (n m : Int) (v u : Value) (es fs : List E) (w : World) (hs : Shp v es.length) (hr : RO w No v (esV es)) (hs2 : Shp u fs.length) (hr2 : RO w No u (esV fs)) :
    Calls Try.prog 35 #[.agg #[.int .i64 n, v], .agg #[.int .i64 m, u]] w (Post w No (Just (.bool (decide (n = m ∧ es = fs))))) := by
  have hm1 := hs.1
  have hm2 := hs2.1
  simp only [maxLen] at hm1 hm2
  refine enter0 (vs := [_, _]) Try.func35 rfl Try.ntmps35 rfl ?_
  by_cases hnm : n = m
  case neg =>
    repeat' first
      | refine k_then ?_
      | refine c_seq ?_
      | refine c_region ?_
      | refine s_nil ?_
      | refine s_move (by exact rfl) (by exact rfl) ?_
      | refine s_assign (by exact rfl) (by exact rfl) ?_
      | refine s_fa (by exact rfl) (by exact rfl) ?_
      | refine s_ld_box (by exact rfl) (by exact rfl) (by first | exact .head _ | exact .tail _ (.head _)) (by exact rfl) ?_
      | refine s_neq (by exact rfl) (by exact rfl) (by exact rfl) ?_
      | refine s_pick_t (by exact rfl) (by exact rfl) (by exact rfl) ?_
      | refine o_box (by exact rfl) (by exact rfl) (fun b => ?_)
      | refine c_ret ?_
      | refine k_then_ret ?_
      | refine c_cond_t (by exact rfl) ?_
      | (refine g_case (by exact rfl) (by exact rfl) (fun h => ?_) (fun h => ?_) <;> try (exfalso; omega))
      | refine g_skip (by exact rfl) (by exact rfl) (by exact rfl) (by exact rfl) ?_
      | fail
    refine ret1 [] rfl rfl rfl ⟨congrArg Value.bool (decide_eq_false fun h => hnm h.1).symm, rfl⟩
  subst hnm
  by_cases hll : es.length = fs.length
  case neg =>
    repeat' first
      | refine k_then ?_
      | refine c_seq ?_
      | refine c_region ?_
      | refine s_nil ?_
      | refine s_move (by exact rfl) (by exact rfl) ?_
      | refine s_assign (by exact rfl) (by exact rfl) ?_
      | refine s_fa (by exact rfl) (by exact rfl) ?_
      | refine s_ld_box (by exact rfl) (by exact rfl) (by first | exact .head _ | exact .tail _ (.head _)) (by exact rfl) ?_
      | refine s_neq (by exact rfl) (by exact rfl) (by exact rfl) ?_
      | refine s_pick_f (by exact rfl) (by exact rfl) (by exact rfl) ?_
      | refine o_box (by exact rfl) (by exact rfl) (fun b => ?_)
      | refine c_ret ?_
      | refine k_then_ret ?_
      | (refine c_cond_p (by exact rfl) (fun h => ?_) (fun h => ?_) <;> try (exfalso; omega))
      | (refine g_case (by exact rfl) (by exact rfl) (fun h => ?_) (fun h => ?_) <;> try (exfalso; omega))
      | refine w_fa (by exact rfl) (by exact rfl) (by exact rfl) (by exact rfl) ?_
      | refine w_ld_box (by exact rfl) (by exact rfl) (by exact rfl) (by exact rfl) (by first | exact .head _ | exact .tail _ (.head _)) (by exact rfl) ?_
      | refine w_neq (by exact rfl) (by exact rfl) (by exact rfl) (by exact rfl) (by exact rfl) ?_
      | refine w_len (by exact rfl) (by exact rfl) (by exact rfl) (by exact rfl) (by assumption) ?_
      | fail
    refine ret1 [] rfl rfl rfl ⟨congrArg Value.bool (decide_eq_false fun h => hll (by rw [h.2])).symm, rfl⟩
  have hll2 : (es.length : Int) = fs.length := by omega
  repeat' first
    | refine k_then ?_
    | refine c_seq ?_
    | refine c_region ?_
    | refine s_nil ?_
    | refine s_move (by exact rfl) (by exact rfl) ?_
    | refine s_assign (by exact rfl) (by exact rfl) ?_
    | refine s_fa (by exact rfl) (by exact rfl) ?_
    | refine s_ld_box (by exact rfl) (by exact rfl) (by first | exact .head _ | exact .tail _ (.head _)) (by exact rfl) ?_
    | refine s_neq (by exact rfl) (by exact rfl) (by exact rfl) ?_
    | refine s_pick_f (by exact rfl) (by exact rfl) (by exact rfl) ?_
    | refine o_box (by exact rfl) (by exact rfl) (fun b => ?_)
    | refine c_block ?_
    | refine c_skip ?_
    | (refine c_cond_p (by exact rfl) (fun h => ?_) (fun h => ?_) <;> try (exfalso; omega))
    | (refine g_case (by exact rfl) (by exact rfl) (fun h => ?_) (fun h => ?_) <;> try (exfalso; omega))
    | refine w_fa (by exact rfl) (by exact rfl) (by exact rfl) (by exact rfl) ?_
    | refine w_ld_box (by exact rfl) (by exact rfl) (by exact rfl) (by exact rfl) (by first | exact .head _ | exact .tail _ (.head _)) (by exact rfl) ?_
    | refine w_neq (by exact rfl) (by exact rfl) (by exact rfl) (by exact rfl) (by exact rfl) ?_
    | refine w_len (by exact rfl) (by exact rfl) (by exact rfl) (by exact rfl) (by assumption) ?_
    | fail
  rename_i b2 _
  rename Nat => b3
  refine c_loop (fun k : Nat => k ≤ es.length ∧ es.take k = fs.take k) (fun k => [(2, .pointer (some ⟨b2, 0, none⟩)), (3, .pointer (some ⟨b3, 0, none⟩)), (4, .bool false), (5, .int .i64 (k : Int))]) (fun _ => [boxHP b3 24 [.int .i64 n, u], boxHP b2 24 [.int .i64 n, v]]) (fun k => es.length - k) 0 [0, 0] ⟨Nat.zero_le _, by simp⟩ (by exact rfl) ⟨rfl, rfl, rfl, rfl, trivial⟩ ?_
  rintro k ⟨hk, hq⟩
  by_cases hlt : k < es.length
  · obtain ⟨e, he⟩ : ∃ z, es[k]? = some z := ⟨_, List.getElem?_eq_getElem hlt⟩
    obtain ⟨f, hf⟩ : ∃ z, fs[k]? = some z := ⟨_, List.getElem?_eq_getElem (by omega)⟩
    have hE := esV_at he
    have hE2 := esV_at hf
    repeat' first
      | refine k_then ?_
      | refine c_seq ?_
      | refine c_region ?_
      | refine s_nil ?_
      | refine s_move (by exact rfl) (by exact rfl) ?_
      | refine s_fa (by exact rfl) (by exact rfl) ?_
      | refine s_ld_box (by exact rfl) (by exact rfl) (by exact .tail _ (.head _)) (by exact rfl) ?_
      | refine s_lss (by exact rfl) (by exact rfl) (by exact rfl) ?_
      | refine s_len (by exact rfl) (by exact rfl) (by assumption) ?_
      | refine c_block ?_
      | refine c_skip ?_
      | (refine c_cond_p (by exact rfl) (fun h => ?_) (fun h => ?_) <;> try (exfalso; omega))
      | fail
    refine p_begin0 [(0, true), (1, true), (2, true), (3, true), (4, true), (5, true), (6, true), (7, true), (8, true), (9, true), (10, true)] (by kernel_rfl) ?_
    repeat' first
      | (refine p_at (by exact rfl) ?_
         first
          | refine t_move (by exact rfl) (by exact rfl) (by exact fun _ h => h) ?_
          | refine t_fa (by exact rfl) (by exact rfl) (by exact fun _ h => h) ?_
          | refine t_ld_box (by exact rfl) (by exact rfl) (by first | exact .head _ | exact .tail _ (.head _)) (by exact rfl) (by exact fun _ h => h) ?_
          | refine t_idx (by exact rfl) (by exact rfl) (by exact rfl) (by assumption) (by first | assumption | omega) (by exact fun _ h => h) ?_
          | refine t_ldk_ro (by exact rfl) (by exact rfl) (by assumption) (by decide) (by assumption) (by exact rfl) (by exact fun _ h => h) ?_
          | fail)
      | fail
    refine p_at (by exact rfl) ?_
    refine t_neq3 (by exact rfl) (by exact rfl) (by exact rfl) (by exact fun _ h => h) ?_
    by_cases hef : e = f
    · subst hef
      rw [show (!decide (e.1 = e.1 ∧ e.2.1 = e.2.1 ∧ e.2.2 = e.2.2)) = false by simp]
      repeat' first
        | refine p_nil ?_
        | fail
      repeat' first
        | refine k_then ?_
        | refine c_region ?_
        | refine s_nil ?_
        | refine s_move (by exact rfl) (by exact rfl) ?_
        | refine s_assign (by exact rfl) (by exact rfl) ?_
        | refine s_add (by exact rfl) (by exact rfl) (by exact rfl) (by omega) ?_
        | refine c_skip ?_
        | refine k_blk ?_
        | refine c_cond_f (by exact rfl) ?_
        | fail
      refine c_round (k + 1) [0, 0] (by exact rfl) ⟨rfl, rfl, rfl, rfl, trivial⟩ ⟨by omega, by rw [List.take_add_one, List.take_add_one, hq, he, hf]⟩ (by omega)
    · rw [show (!decide (e.1 = f.1 ∧ e.2.1 = f.2.1 ∧ e.2.2 = f.2.2)) = true by
        rw [decide_eq_false fun h => hef (Prod.ext h.1 (Prod.ext h.2.1 h.2.2))]; rfl]
      repeat' first
        | refine p_nil ?_
        | fail
      repeat' first
        | refine k_then ?_
        | refine c_seq ?_
        | refine c_region ?_
        | refine s_nil ?_
        | refine s_assign (by exact rfl) (by exact rfl) ?_
        | refine c_ret ?_
        | refine k_then_ret ?_
        | refine k_blk_ret ?_
        | refine c_cond_t (by exact rfl) ?_
        | fail
      refine ret1 [] rfl rfl rfl ⟨congrArg Value.bool (decide_eq_false fun h => hef ?_).symm, rfl⟩
      have h2 := h.2
      subst h2
      rw [he] at hf
      exact Option.some.inj hf
  · rw [List.take_of_length_le (by omega), List.take_of_length_le (by omega)] at hq
    repeat' first
      | refine k_then ?_
      | refine c_seq ?_
      | refine c_region ?_
      | refine s_nil ?_
      | refine s_move (by exact rfl) (by exact rfl) ?_
      | refine s_assign (by exact rfl) (by exact rfl) ?_
      | refine s_fa (by exact rfl) (by exact rfl) ?_
      | refine s_ld_box (by exact rfl) (by exact rfl) (by exact .tail _ (.head _)) (by exact rfl) ?_
      | refine s_lss (by exact rfl) (by exact rfl) (by exact rfl) ?_
      | refine s_len (by exact rfl) (by exact rfl) (by assumption) ?_
      | refine c_exit ?_
      | refine c_ret ?_
      | refine k_then_exit ?_
      | refine k_blk_eq ?_
      | (refine c_cond_p (by exact rfl) (fun h => ?_) (fun h => ?_) <;> try (exfalso; omega))
      | fail
    refine ret1 [] rfl rfl rfl ⟨congrArg Value.bool (decide_eq_true ⟨rfl, hq⟩).symm, rfl⟩
end Go.Proofs.Ytpajjnkmaebhcaa
end
section
set_option linter.unusedVariables false
namespace Go.Proofs.Ytpajjnkmaebhcaa
open Go Go.RowKit Go.Sl Fil
set_option maxRecDepth 100000
set_option maxHeartbeats 8000000
set_option linter.unusedVariables false
set_option linter.unusedSimpArgs false
attribute [local irreducible] Code.wp wpList bodyPost wpQuiet Exit.then Exit.inBlock Post wpAnyH wpOp
theorem FacesDual_bad (n : Int) (v : Value) (es : List E) (vr : Value) (hr0 : List Value) (ls : List (List Int)) (K : Int) (w : World) (hs : Shp v es.length) (hr : RO w No v (esV es)) (hR : ROsI w No vr hr0 ls) (hlen : ∀ l ∈ ls, l.length ≤ 17592186044416) (hl : light7 n es.length ls 25 = true) (hK : K ≠ 0) (hP : PlaneIs n v vr K w)
    (hQ : ∀ (L : List HP) (w' : World), St w No L w' → Calls Try.prog 23 #[.agg #[.int .i64 n, v], vr] w' (Post w' No (Just (.int .i64 K)))) :
    Calls Try.prog 9 #[.agg #[.int .i64 n, v], vr] w (Post w No (Just (.bool true))) := by
  have hnone : Shp (.slice none 0 0) 0 := ⟨by simp [maxLen], .inl ⟨rfl, rfl⟩⟩
  refine enter0 (vs := [_, _]) Try.func9 rfl Try.ntmps9 rfl ?_
  repeat' first
    | refine k_then ?_
    | refine c_seq ?_
    | refine c_region ?_
    | refine s_nil ?_
    | refine s_move (by exact rfl) (by exact rfl) ?_
    | refine s_assign (by exact rfl) (by exact rfl) ?_
    | refine s_ldk_box (by exact rfl) (by exact rfl) (by exact .head _) (by exact rfl) (by exact rfl) ?_
    | refine o_box (by exact rfl) (by exact rfl) (fun b => ?_)
    | fail
  refine s_call (by exact rfl) (by exact rfl) (fun w h => Light7_ok n v es.length vr hr0 ls 25 w hs (rosI_old h hR) hlen (by omega)) ?_
  rw [hl]
  repeat' first
    | refine k_then ?_
    | refine c_seq ?_
    | refine c_region ?_
    | refine s_nil ?_
    | refine s_move (by exact rfl) (by exact rfl) ?_
    | refine s_not (by exact rfl) (by exact rfl) ?_
    | refine s_ldk_box (by exact rfl) (by exact rfl) (by exact .head _) (by exact rfl) (by exact rfl) ?_
    | refine c_skip ?_
    | refine c_cond_f (by exact rfl) ?_
    | fail
  revert b; intro bg
  refine s_call (vs := [.agg #[.int .i64 n, v], vr]) (by exact rfl) (by exact rfl) (fun w h => Sides_no n v vr K w (hP.old h) hK) ?_
  repeat' first
    | refine k_then ?_
    | refine c_seq ?_
    | refine c_region ?_
    | refine s_nil ?_
    | refine s_move (by exact rfl) (by exact rfl) ?_
    | refine s_assign (by exact rfl) (by exact rfl) ?_
    | refine s_extract (by exact rfl) (by exact rfl) (by exact rfl) ?_
    | refine s_ldk_box (by exact rfl) (by exact rfl) (by exact .head _) (by exact rfl) (by exact rfl) ?_
    | fail
  refine s_call (vs := [.agg #[.int .i64 n, v], vr]) (by exact rfl) (by exact rfl) (fun w h => Lengths_no n v vr K w (hP.old h) hK) ?_
  repeat' first
    | refine k_then ?_
    | refine c_seq ?_
    | refine c_region ?_
    | refine s_nil ?_
    | refine s_move (by exact rfl) (by exact rfl) ?_
    | refine s_assign (by exact rfl) (by exact rfl) ?_
    | refine s_extract (by exact rfl) (by exact rfl) (by exact rfl) ?_
    | refine s_ldk_box (by exact rfl) (by exact rfl) (by exact .head _) (by exact rfl) (by exact rfl) ?_
    | fail
  refine s_call (vs := [.agg #[.int .i64 n, v], vr]) (by exact rfl) (by exact rfl) (fun w h => Dual_no n v vr K w (hP.old h) hK) ?_
  repeat' first
    | refine s_move (by exact rfl) (by exact rfl) ?_
    | refine s_extract (by exact rfl) (by exact rfl) (by exact rfl) ?_
    | refine o_alloc (by exact rfl) (fun b => ?_)
    | fail
  refine o_stk_box (i := 0) (us := [.int .i64 0, .slice none 0 0]) (by exact rfl) (by exact rfl) (by exact rfl) (by exact rfl) (by exact rfl) (by simp [Value.oneCell']) (by simp [Value.cells]) ?_
  repeat' first
    | refine k_then ?_
    | refine c_seq ?_
    | refine c_region ?_
    | refine s_nil ?_
    | refine s_move (by exact rfl) (by exact rfl) ?_
    | refine s_assign (by exact rfl) (by exact rfl) ?_
    | refine s_ldk_box (by exact rfl) (by exact rfl) (by exact .tail _ (.head _)) (by exact rfl) (by exact rfl) ?_
    | fail
  refine s_call (vs := [.agg #[.int .i64 n, v], vr]) (by exact rfl) (by exact rfl) (fun w h => hQ _ w h) ?_
  repeat' first
    | refine k_then ?_
    | refine c_seq ?_
    | refine c_region ?_
    | refine s_nil ?_
    | refine s_move (by exact rfl) (by exact rfl) ?_
    | refine s_assign (by exact rfl) (by exact rfl) ?_
    | refine s_eql (by exact rfl) (by exact rfl) (by exact rfl) ?_
    | refine s_neq (by exact rfl) (by exact rfl) (by exact rfl) ?_
    | refine s_pick_t (by exact rfl) (by exact rfl) (by exact rfl) ?_
    | (refine c_cond_p (by exact rfl) (fun h => ?_) (fun h => ?_) <;> try (exfalso; omega))
    | (refine g_case (by exact rfl) (by exact rfl) (fun h => ?_) (fun h => ?_) <;> try (exfalso; omega))
    | refine w_move (by exact rfl) (by exact rfl) (by exact rfl) (by exact rfl) ?_
    | refine w_eql (by exact rfl) (by exact rfl) (by exact rfl) (by exact rfl) (by exact rfl) ?_
    | refine w_add (by exact rfl) (by exact rfl) (by exact rfl) (by exact rfl) (by exact rfl) (by omega) ?_
    | refine w_len (by exact rfl) (by exact rfl) (by exact rfl) (by exact rfl) (by assumption) ?_
    | refine w_ldk_box (by exact rfl) (by exact rfl) (by exact rfl) (by exact rfl) (by exact .head _) (by exact rfl) (by exact rfl) ?_
    | refine g_on (by exact rfl) (by exact rfl) ?_
    | fail
  refine o_build (cs := [.int .i64 0, .slice none 0 0]) [] (by exact rfl) (by exact rfl) (by simp [Value.cells]) (by exact rfl) ?_
  repeat' first
    | refine g_on (by exact rfl) (by exact rfl) ?_
    | fail
  refine s_call (vs := [.agg #[.int .i64 0, .slice none 0 0], .agg #[.int .i64 0, .slice none 0 0]]) (by exact rfl) (by exact rfl) (fun w h => Same4_ok 0 0 (.slice none 0 0) (.slice none 0 0) [] [] w hnone (fun _ _ _ j u hj => by simp [esV] at hj) hnone (fun _ _ _ j u hj => by simp [esV] at hj)) ?_
  rw [decide_eq_true ⟨rfl, rfl⟩]
  repeat' first
    | refine s_move (by exact rfl) (by exact rfl) ?_
    | refine s_pick_t (by exact rfl) (by exact rfl) (by exact rfl) ?_
    | refine g_on (by exact rfl) (by exact rfl) ?_
    | fail
  refine s_call (vs := []) (by exact rfl) (by exact rfl) (fun w h => alive10_ok w) ?_
  repeat' first
    | refine k_then ?_
    | refine s_nil ?_
    | refine s_assign (by exact rfl) (by exact rfl) ?_
    | refine s_pick_t (by exact rfl) (by exact rfl) (by exact rfl) ?_
    | refine c_ret ?_
    | refine k_then_ret ?_
    | fail
  refine ret1 [] rfl rfl (by exact rfl) ⟨rfl, rfl⟩
theorem FacesDual_ok (n : Int) (v : Value) (es : List E) (vr : Value) (hr0 : List Value) (ls : List (List Int)) (w : World) (hs : Shp v es.length) (hr : RO w No v (esV es)) (hR : ROsI w No vr hr0 ls) (hlen : ∀ l ∈ ls, l.length ≤ 17592186044416) :
    Calls Try.prog 9 #[.agg #[.int .i64 n, v], vr] w (Post w No (Just (.bool true))) := by
  cases hl : light7 n es.length ls 25
  · refine enter0 (vs := [_, _]) Try.func9 rfl Try.ntmps9 rfl ?_
    repeat' first
      | refine k_then ?_
      | refine c_seq ?_
      | refine c_region ?_
      | refine s_nil ?_
      | refine s_move (by exact rfl) (by exact rfl) ?_
      | refine s_assign (by exact rfl) (by exact rfl) ?_
      | refine s_ldk_box (by exact rfl) (by exact rfl) (by exact .head _) (by exact rfl) (by exact rfl) ?_
      | refine o_box (by exact rfl) (by exact rfl) (fun b => ?_)
      | fail
    refine s_call (by exact rfl) (by exact rfl) (fun w h => Light7_ok n v es.length vr hr0 ls 25 w hs (rosI_old h hR) hlen (by omega)) ?_
    rw [hl]
    repeat' first
      | refine k_then ?_
      | refine c_seq ?_
      | refine c_region ?_
      | refine s_nil ?_
      | refine s_not (by exact rfl) (by exact rfl) ?_
      | refine c_cond_t (by exact rfl) ?_
      | fail
    refine s_call (vs := []) (by exact rfl) (by exact rfl) (fun w h => alive10_ok w) ?_
    repeat' first
      | refine k_then ?_
      | refine s_nil ?_
      | refine s_assign (by exact rfl) (by exact rfl) ?_
      | refine c_ret ?_
      | refine k_then_ret ?_
      | fail
    refine ret1 [] rfl rfl (by exact rfl) ⟨rfl, rfl⟩
  obtain ⟨l1, l2, l3, l4⟩ := light7_t hl
  have hle : ∀ l ∈ ls, l.length ≤ 1048576 := fun l hl => by have := l4 l hl; omega
  by_cases hk : rotK n es ls = 0
  case neg => exact FacesDual_bad n v es vr hr0 _ _ w hs hr hR hlen hl hk (planeIs_no hs hr (by omega) hR hle hk) fun L w' h => refPlane_no n v es vr hr0 ls w' hs (ro_old h hr) (by omega) (rosI_old h hR) hk
  obtain ⟨hG, R, rfl, hRot⟩ := rot_sys hk
  have hRs := hR.nat
  obtain ⟨o, lab, hL⟩ := lev_ex w hG
  by_cases hp : planeR n.toNat (tn es) lab R = 0
  case neg => exact FacesDual_bad n v es vr hr0 _ _ w hs hr hR hlen hl hp (planeIs_ok hs hr hG hRs hRot hL) fun L w' h => refPlane_ok n v es vr hr0 R o lab w' hs (ro_old h hr) hG (ros_old h hRs) hRot hL
  refine enter0 (vs := [_, _]) Try.func9 rfl Try.ntmps9 rfl ?_
  repeat' first
    | refine k_then ?_
    | refine c_seq ?_
    | refine c_region ?_
    | refine s_nil ?_
    | refine s_move (by exact rfl) (by exact rfl) ?_
    | refine s_assign (by exact rfl) (by exact rfl) ?_
    | refine s_ldk_box (by exact rfl) (by exact rfl) (by exact .head _) (by exact rfl) (by exact rfl) ?_
    | refine o_box (by exact rfl) (by exact rfl) (fun b => ?_)
    | fail
  refine s_call (by exact rfl) (by exact rfl) (fun w h => Light7_ok n v es.length vr hr0 (intL R) 25 w hs (rosI_old h hR) hlen (by omega)) ?_
  rw [hl]
  repeat' first
    | refine k_then ?_
    | refine c_seq ?_
    | refine c_region ?_
    | refine s_nil ?_
    | refine s_move (by exact rfl) (by exact rfl) ?_
    | refine s_not (by exact rfl) (by exact rfl) ?_
    | refine s_ldk_box (by exact rfl) (by exact rfl) (by exact .head _) (by exact rfl) (by exact rfl) ?_
    | refine c_skip ?_
    | refine c_cond_f (by exact rfl) ?_
    | fail
  revert b; intro bg
  refine o_call (by exact rfl) (by exact rfl) (fun w h => Sides_ok n v es vr hr0 R w hs (ro_old h hr) hG (ros_old h hRs) hRot (hp ▸ planeIs_ok hs (ro_old h hr) hG (ros_old h hRs) hRot hL)) ?_
  rintro _ _ ⟨vs, rfl, rfl⟩
  refine know_row (v := vs) (by exact .head _) fun hvs _ => ?_
  repeat' first
    | refine k_then ?_
    | refine c_seq ?_
    | refine c_region ?_
    | refine s_nil ?_
    | refine s_move (by exact rfl) (by exact rfl) ?_
    | refine s_assign (by exact rfl) (by exact rfl) ?_
    | refine s_extract (by exact rfl) (by exact rfl) (by exact rfl) ?_
    | refine s_ldk_box (by exact rfl) (by exact rfl) (by exact .tail _ (.head _)) (by exact rfl) (by exact rfl) ?_
    | fail
  refine o_call (by exact rfl) (by exact rfl) (fun w h => Lengths_ok n v es vr hr0 R w hs (ro_old h hr) hG (ros_old h hRs) hRot (hp ▸ planeIs_ok hs (ro_old h hr) hG (ros_old h hRs) hRot hL)) ?_
  rintro _ _ ⟨vn, rfl, rfl⟩
  refine know_row (v := vn) (by exact .head _) fun hvn _ => ?_
  repeat' first
    | refine k_then ?_
    | refine c_seq ?_
    | refine c_region ?_
    | refine s_nil ?_
    | refine s_move (by exact rfl) (by exact rfl) ?_
    | refine s_assign (by exact rfl) (by exact rfl) ?_
    | refine s_extract (by exact rfl) (by exact rfl) (by exact rfl) ?_
    | refine s_ldk_box (by exact rfl) (by exact rfl) (by exact .tail _ (.tail _ (.head _))) (by exact rfl) (by exact rfl) ?_
    | fail
  refine o_call (by exact rfl) (by exact rfl) (fun w h => Dual_ok n v es vr hr0 R w hs (ro_old h hr) hG (ros_old h hRs) hRot (hp ▸ planeIs_ok hs (ro_old h hr) hG (ros_old h hRs) hRot hL)) ?_
  rintro _ _ ⟨ve, rfl, rfl⟩
  refine know_row (v := ve) (.head _) fun hve _ => ?_
  repeat' first
    | refine s_move (by exact rfl) (by exact rfl) ?_
    | refine s_extract (by exact rfl) (by exact rfl) (by exact rfl) ?_
    | refine o_alloc (by exact rfl) (fun b => ?_)
    | fail
  revert b; intro b9
  refine o_stk_box (i := 0) (us := [.int .i64 ((facesR n.toNat (tn es) R).length : Int), ve]) (by exact rfl) (by exact rfl) (by exact rfl) (by exact rfl) (by exact rfl) (by
    intro u hu
    simp only [List.mem_cons, List.not_mem_nil, or_false] at hu
    rcases hu with rfl | rfl
    · rfl
    · exact hve.one) (by simp [Value.cells]) ?_
  repeat' first
    | refine k_then ?_
    | refine c_seq ?_
    | refine c_region ?_
    | refine s_nil ?_
    | refine s_move (by exact rfl) (by exact rfl) ?_
    | refine s_assign (by exact rfl) (by exact rfl) ?_
    | refine s_ldk_box (by exact rfl) (by exact rfl) (by exact .tail _ (.tail _ (.tail _ (.tail _ (.head _))))) (by exact rfl) (by exact rfl) ?_
    | fail
  refine s_call (by exact rfl) (by exact rfl) (fun w h => refPlane_ok n v es vr hr0 R o lab w hs (ro_old h hr) hG (ros_old h hRs) hRot hL) ?_
  rw [hp]
  repeat' first
    | refine k_then ?_
    | refine c_seq ?_
    | refine c_region ?_
    | refine s_nil ?_
    | refine s_move (by exact rfl) (by exact rfl) ?_
    | refine s_assign (by exact rfl) (by exact rfl) ?_
    | refine s_neq (by exact rfl) (by exact rfl) (by exact rfl) ?_
    | refine s_ldk_box (by exact rfl) (by exact rfl) (by exact .tail _ (.tail _ (.tail _ (.tail _ (.head _))))) (by exact rfl) (by exact rfl) ?_
    | refine c_skip ?_
    | (refine c_cond_p (by exact rfl) (fun h => ?_) (fun h => ?_) <;> try (exfalso; omega))
    | fail
  refine o_call (by exact rfl) (by exact rfl) (fun w h => refDual_ok n v es vr hr0 R w hs (ro_old h hr) hG (ros_old h hRs) hRot) ?_
  rintro _ _ ⟨ve2, rfl, rfl⟩
  refine know_row (v := ve2) (.head _) fun hve2 _ => ?_
  repeat' first
    | refine o_alloc (by exact rfl) (fun b => ?_)
    | fail
  revert b; intro b12
  refine o_stk_box (i := 0) (us := [.int .i64 ((facesR n.toNat (tn es) R).length : Int), ve2]) (by exact rfl) (by exact rfl) (by exact rfl) (by exact rfl) (by exact rfl) (by
    intro u hu
    simp only [List.mem_cons, List.not_mem_nil, or_false] at hu
    rcases hu with rfl | rfl
    · rfl
    · exact hve2.one) (by simp [Value.cells]) ?_
  repeat' first
    | refine k_then ?_
    | refine c_seq ?_
    | refine c_region ?_
    | refine s_nil ?_
    | refine s_move (by exact rfl) (by exact rfl) ?_
    | refine s_ldk_box (by exact rfl) (by exact rfl) (by exact .tail _ (.tail _ (.tail _ (.tail _ (.tail _ (.tail _ (.head _))))))) (by exact rfl) (by exact rfl) ?_
    | fail
  refine o_call (by exact rfl) (by exact rfl) (fun w h => refFaces_ok n v es vr hr0 R w hs (ro_old h hr) hG (ros_old h hRs) hRot) ?_
  rintro vf _ ⟨hf, hfl, rfl⟩
  refine know_row (v := vf) (by exact .head _) fun hvf _ => ?_
  have hdl := dualL_length (facesR n.toNat (tn es) R) es
  have hwd : ∀ {L : List HP} {w1 : World} {x : Value}, rowHP x 60 3 es.length (esV (dualL (facesR n.toNat (tn es) R) es)) ∈ L → St w No L w1 → Shp x (dualL (facesR n.toNat (tn es) R) es).length → RO w1 No x (esV (dualL (facesR n.toNat (tn es) R) es)) := fun h1 h2 _ => ro_own h2 h1
  have hds := dualL_length (facesR n.toNat (tn es) R) es
  generalize hF : facesR n.toNat (tn es) R = Fs at *
  repeat' first
    | refine k_then ?_
    | refine c_seq ?_
    | refine c_region ?_
    | refine s_nil ?_
    | refine s_move (by exact rfl) (by exact rfl) ?_
    | refine s_assign (by exact rfl) (by exact rfl) ?_
    | refine s_neq (by exact rfl) (by exact rfl) (by exact rfl) ?_
    | refine s_pick_f (by exact rfl) (by exact rfl) (by exact rfl) ?_
    | (refine g_case (by exact rfl) (by exact rfl) (fun h => ?_) (fun h => ?_) <;> try (exfalso; omega))
    | refine w_move (by exact rfl) (by exact rfl) (by exact rfl) (by exact rfl) ?_
    | refine w_neq (by exact rfl) (by exact rfl) (by exact rfl) (by exact rfl) (by exact rfl) ?_
    | refine w_ldk_box (by exact rfl) (by exact rfl) (by exact rfl) (by exact rfl) (by first | exact .tail _ (.tail _ (.head _)) | exact .tail _ (.tail _ (.tail _ (.tail _ (.head _))))) (by exact rfl) (by exact rfl) ?_
    | refine g_on (by exact rfl) (by exact rfl) ?_
    | fail
  refine s_call (vs := [.agg #[.int .i64 (Fs.length : Int), ve], .agg #[.int .i64 (Fs.length : Int), ve2]]) (by exact rfl) (by exact rfl) (fun w h => Same4_ok (Fs.length : Int) (Fs.length : Int) ve ve2 (dualL Fs es) (dualL Fs es) w (by rw [hds]; exact hve) (ro_own h (by exact .tail _ (.tail _ (.tail _ (.tail _ (.tail _ (.head _))))))) (by rw [hds]; exact hve2) (ro_own h (by exact .tail _ (.tail _ (.tail _ (.head _)))))) ?_
  rw [decide_eq_true ⟨rfl, rfl⟩]
  repeat' first
    | refine k_then ?_
    | refine c_seq ?_
    | refine c_region ?_
    | refine s_nil ?_
    | refine s_move (by exact rfl) (by exact rfl) ?_
    | refine s_assign (by exact rfl) (by exact rfl) ?_
    | refine s_pick_f (by exact rfl) (by exact rfl) (by exact rfl) ?_
    | refine c_block ?_
    | refine c_skip ?_
    | (refine c_cond_p (by exact rfl) (fun h => ?_) (fun h => ?_) <;> try (exfalso; omega))
    | (refine g_case (by exact rfl) (by exact rfl) (fun h => ?_) (fun h => ?_) <;> try (exfalso; omega))
    | refine w_move (by exact rfl) (by exact rfl) (by exact rfl) (by exact rfl) ?_
    | refine w_fa (by exact rfl) (by exact rfl) (by exact rfl) (by exact rfl) ?_
    | refine w_ld_box (by exact rfl) (by exact rfl) (by exact rfl) (by exact rfl) (by exact .tail _ (.tail _ (.tail _ (.tail _ (.tail _ (.tail _ (.tail _ (.tail _ (.head _))))))))) (by exact rfl) ?_
    | refine w_neq (by exact rfl) (by exact rfl) (by exact rfl) (by exact rfl) (by exact rfl) ?_
    | refine w_not (by exact rfl) (by exact rfl) (by exact rfl) (by exact rfl) ?_
    | refine w_len (by exact rfl) (by exact rfl) (by exact rfl) (by exact rfl) (by assumption) ?_
    | fail
  refine c_loop (fun k : Nat => k ≤ es.length) (fun k => [(2, .pointer (some ⟨bg, 0, none⟩)), (5, vs), (7, vn), (12, .pointer (some ⟨b12, 0, none⟩)), (13, vf), (14, .int .i64 (k : Int))])
    (fun _ => _) (fun k => es.length - k) 0 (List.replicate _ 0) (Nat.zero_le _) (pick_id _) ⟨rfl, rfl, rfl, rfl, rfl, rfl, trivial⟩ ?_
  rintro k hk
  by_cases hkl : k < es.length
  · obtain ⟨e, he⟩ : ∃ e, es[k]? = some e := ⟨_, List.getElem?_eq_getElem hkl⟩
    have hde : (dualL Fs es)[k]? = some (dualE Fs e) := by rw [dualL, List.getElem?_map, he]; rfl
    have hE0 : (esV (dualL Fs es))[k * 3 + 0]? = some (.int .i64 ((sidesE Fs e).1 : Int)) := (esV_get hde).1
    have hE1 : (esV (dualL Fs es))[k * 3 + 1]? = some (.int .i64 ((sidesE Fs e).2 : Int)) := (esV_get hde).2.1
    obtain ⟨hd1, hd2⟩ := dsV_get (sidesL_at (F := Fs) he)
    have hd0 : (dsV (sidesL Fs es))[k * 2 + 0]? = some (.int .i64 ((sidesE Fs e).1 : Int)) := hd1
    have hpos : 0 < es.length := by omega
    repeat' first
      | refine k_then ?_
      | refine c_seq ?_
      | refine c_region ?_
      | refine s_nil ?_
      | refine s_move (by exact rfl) (by exact rfl) ?_
      | refine s_lss (by exact rfl) (by exact rfl) (by exact rfl) ?_
      | refine s_len (by exact rfl) (by exact rfl) (by assumption) ?_
      | refine c_block ?_
      | refine c_skip ?_
      | (refine c_cond_p (by exact rfl) (fun h => ?_) (fun h => ?_) <;> try (exfalso; omega))
      | fail
    refine p_begin0 [(0, true), (1, true), (2, true), (3, true), (4, true), (5, true), (6, true), (7, true), (8, true), (9, true), (10, true), (11, true), (12, true), (13, true), (14, true), (15, true), (16, true), (17, true), (18, true), (19, true), (20, true), (21, true), (22, true), (23, true), (24, true), (25, true)] (by kernel_rfl) ?_
    repeat' first
      | (refine p_at (by exact rfl) ?_
         first
          | refine t_move (by exact rfl) (by exact rfl) (by exact fun _ h => h) ?_
          | refine t_idx (by exact rfl) (by exact rfl) (by exact rfl) (by assumption) (by first | assumption | omega) (by exact fun _ h => h) ?_
          | fail)
      | fail
    refine p_at (by exact rfl) ?_
    refine t_iap 0 (by exact rfl) (by exact rfl) (by exact rfl) (by omega) (by omega) hvs hpos (by exact fun _ h => h) ?_
    repeat' first
      | (refine p_at (by exact rfl) ?_
         first
          | refine t_move (by exact rfl) (by exact rfl) (by exact fun _ h => h) ?_
          | refine t_fa (by exact rfl) (by exact rfl) (by exact fun _ h => h) ?_
          | refine t_ld_box (by exact rfl) (by exact rfl) (by exact .tail _ (.tail _ (.head _))) (by exact rfl) (by exact fun _ h => h) ?_
          | refine t_neq (by exact rfl) (by exact rfl) (by exact rfl) (by exact fun _ h => h) ?_
          | refine t_idx (by exact rfl) (by exact rfl) (by exact rfl) (by assumption) (by first | assumption | omega) (by exact fun _ h => h) ?_
          | refine t_fap (by exact rfl) (by exact rfl) (by assumption) (by omega) (by exact fun _ h => h) ?_
          | refine t_ld_row (by exact rfl) (by exact rfl) (by first | exact .tail _ (.tail _ (.tail _ (.head _))) | exact .tail _ (.tail _ (.tail _ (.tail _ (.tail _ (.tail _ (.tail _ (.head _)))))))) (by assumption) (by exact fun _ h => h) ?_
          | refine tw_move (by exact rfl) (by exact rfl) (by exact rfl) (by exact rfl) (by exact fun _ h => h) ?_
          | refine tw_idx (by exact rfl) (by exact rfl) (by exact rfl) (by exact rfl) (by exact rfl) (by assumption) (by first | assumption | omega) (by exact fun _ h => h) ?_
          | (refine t_case (by exact rfl) (by exact rfl) (fun h => ?_) (fun h => ?_) <;> try (exfalso; omega))
          | fail)
      | fail
    refine p_at (by exact rfl) ?_
    refine tw_iap 1 (by exact rfl) (by exact rfl) (by exact rfl) (by exact rfl) (by exact rfl) (by omega) (by omega) hvs hpos (by exact fun _ h => h) ?_
    repeat' first
      | refine p_nil ?_
      | (refine p_at (by exact rfl) ?_
         first
          | refine t_pick_f (by exact rfl) (by exact rfl) (by exact rfl) (by exact fun _ h => h) ?_
          | refine tw_move (by exact rfl) (by exact rfl) (by exact rfl) (by exact rfl) (by exact fun _ h => h) ?_
          | refine tw_fa (by exact rfl) (by exact rfl) (by exact rfl) (by exact rfl) (by exact fun _ h => h) ?_
          | refine tw_ld_box (by exact rfl) (by exact rfl) (by exact rfl) (by exact rfl) (by exact .tail _ (.tail _ (.head _))) (by exact rfl) (by exact fun _ h => h) ?_
          | refine tw_neq (by exact rfl) (by exact rfl) (by exact rfl) (by exact rfl) (by exact rfl) (by exact fun _ h => h) ?_
          | refine tw_idx (by exact rfl) (by exact rfl) (by exact rfl) (by exact rfl) (by exact rfl) (by assumption) (by first | assumption | omega) (by exact fun _ h => h) ?_
          | refine tw_fap (by exact rfl) (by exact rfl) (by exact rfl) (by exact rfl) (by assumption) (by omega) (by exact fun _ h => h) ?_
          | refine tw_ld_row (by exact rfl) (by exact rfl) (by exact rfl) (by exact rfl) (by first | exact .tail _ (.tail _ (.tail _ (.head _))) | exact .tail _ (.tail _ (.tail _ (.tail _ (.tail _ (.tail _ (.tail _ (.head _)))))))) (by assumption) (by exact fun _ h => h) ?_
          | fail)
      | fail
    repeat' first
      | refine k_then ?_
      | refine c_region ?_
      | refine s_nil ?_
      | refine s_move (by exact rfl) (by exact rfl) ?_
      | refine s_assign (by exact rfl) (by exact rfl) ?_
      | refine s_add (by exact rfl) (by exact rfl) (by exact rfl) (by omega) ?_
      | refine c_skip ?_
      | refine k_blk ?_
      | (refine c_cond_p (by exact rfl) (fun h => ?_) (fun h => ?_) <;> try (exfalso; omega))
      | fail
    refine c_round (k + 1) (List.replicate _ 0) (pick_id _) ⟨rfl, rfl, rfl, rfl, rfl, rfl, trivial⟩ (by omega) (by omega)
  have hFl : Fs.length ≤ 2 * es.length := by
    rw [← hF]
    have h1 := flat_le (C := facesR n.toNat (tn es) R) fun f hf => ((facesR_dec hG hRot).cy f hf).1
    have h2 := (facesR_dec hG hRot).perm.length_eq
    rw [dartsAll_length hG] at h2
    omega
  repeat' first
    | refine k_then ?_
    | refine c_seq ?_
    | refine c_region ?_
    | refine s_nil ?_
    | refine s_move (by exact rfl) (by exact rfl) ?_
    | refine s_assign (by exact rfl) (by exact rfl) ?_
    | refine s_lss (by exact rfl) (by exact rfl) (by exact rfl) ?_
    | refine s_len (by exact rfl) (by exact rfl) (by assumption) ?_
    | refine c_block ?_
    | refine c_exit ?_
    | refine k_then_exit ?_
    | refine k_blk_eq ?_
    | (refine c_cond_p (by exact rfl) (fun h => ?_) (fun h => ?_) <;> try (exfalso; omega))
    | fail
  refine c_loop (fun k : Nat => k ≤ Fs.length) (fun k => [(2, .pointer (some ⟨bg, 0, none⟩)), (7, vn), (13, vf), (15, .int .i64 (k : Int))])
    (fun _ => _) (fun k => Fs.length - k) 0 (List.replicate _ 0) (Nat.zero_le _) (pick_id _) ⟨rfl, rfl, rfl, rfl, trivial⟩ ?_
  rintro k hk
  by_cases hkl : k < Fs.length
  · obtain ⟨f, hf1⟩ : ∃ f, Fs[k]? = some f := ⟨_, List.getElem?_eq_getElem hkl⟩
    obtain ⟨hd, hhd⟩ : ∃ hd, hf[k]? = some hd := ⟨_, List.getElem?_eq_getElem (by omega)⟩
    have hhd1 : hf[k * 1]? = some hd := by rw [Nat.mul_one]; exact hhd
    have hn1 : (nV (Fs.map List.length))[k * 1]? = some (.int .i64 (f.length : Int)) := by rw [Nat.mul_one]; simp [nV, hf1]
    have hkd : rowHP hd 43 2 f.length (dsV f) ∈ kids rowD hf Fs := kids_mem (f := rowD) hhd hf1
    refine know_kid (by exact .tail _ (.head _)) hkd fun hsd _ => ?_
    repeat' first
      | refine k_then ?_
      | refine c_seq ?_
      | refine c_region ?_
      | refine s_nil ?_
      | refine s_move (by exact rfl) (by exact rfl) ?_
      | refine s_lss (by exact rfl) (by exact rfl) (by exact rfl) ?_
      | refine s_len (by exact rfl) (by exact rfl) (by assumption) ?_
      | refine c_block ?_
      | refine c_skip ?_
      | (refine c_cond_p (by exact rfl) (fun h => ?_) (fun h => ?_) <;> try (exfalso; omega))
      | fail
    refine p_begin0 [(0, true), (1, true), (2, true), (3, true), (4, true), (5, true), (6, true), (7, true), (8, true), (9, true)] (by kernel_rfl) ?_
    repeat' first
      | refine p_nil ?_
      | (refine p_at (by exact rfl) ?_
         first
          | refine t_move (by exact rfl) (by exact rfl) (by exact fun _ h => h) ?_
          | refine t_neq (by exact rfl) (by exact rfl) (by exact rfl) (by exact fun _ h => h) ?_
          | refine t_len (by exact rfl) (by exact rfl) (by assumption) (by exact fun _ h => h) ?_
          | refine t_idx (by exact rfl) (by exact rfl) (by exact rfl) (by assumption) (by first | assumption | omega) (by exact fun _ h => h) ?_
          | refine t_ld_row (by exact rfl) (by exact rfl) (by first | exact .head _ | exact .tail _ (.tail _ (.tail _ (.tail _ (.tail _ (.tail _ (.head _))))))) (by assumption) (by exact fun _ h => h) ?_
          | fail)
      | fail
    repeat' first
      | refine k_then ?_
      | refine c_region ?_
      | refine s_nil ?_
      | refine s_move (by exact rfl) (by exact rfl) ?_
      | refine s_assign (by exact rfl) (by exact rfl) ?_
      | refine s_add (by exact rfl) (by exact rfl) (by exact rfl) (by omega) ?_
      | refine c_skip ?_
      | refine k_blk ?_
      | (refine c_cond_p (by exact rfl) (fun h => ?_) (fun h => ?_) <;> try (exfalso; omega))
      | fail
    refine c_round (k + 1) (List.replicate _ 0) (pick_id _) ⟨rfl, rfl, rfl, rfl, trivial⟩ (by omega) (by omega)
  repeat' first
    | refine k_then ?_
    | refine c_seq ?_
    | refine c_region ?_
    | refine s_nil ?_
    | refine s_move (by exact rfl) (by exact rfl) ?_
    | refine s_lss (by exact rfl) (by exact rfl) (by exact rfl) ?_
    | refine s_len (by exact rfl) (by exact rfl) (by assumption) ?_
    | refine c_exit ?_
    | refine k_then_exit ?_
    | refine k_blk_eq ?_
    | (refine c_cond_p (by exact rfl) (fun h => ?_) (fun h => ?_) <;> try (exfalso; omega))
    | fail
  refine s_call (vs := []) (by exact rfl) (by exact rfl) (fun w h => alive10_ok w) ?_
  repeat' first
    | refine k_then ?_
    | refine s_nil ?_
    | refine s_assign (by exact rfl) (by exact rfl) ?_
    | refine c_ret ?_
    | fail
  refine ret1 [] rfl rfl (by exact rfl) ⟨rfl, rfl⟩
end Go.Proofs.Ytpajjnkmaebhcaa
end
