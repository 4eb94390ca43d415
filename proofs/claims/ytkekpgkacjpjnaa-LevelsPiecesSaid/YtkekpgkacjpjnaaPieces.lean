/- The pieces that are left by a shift: the program's and the document's. -/
import Derived.Test.YtkekpgkacjpjnaaRefOnly
import Derived.Test.YtkekpgkacjpjnaaRefC
import Derived.Test.YtkekpgkacjpjnaaRef18K
import Derived.Test.YtkekpgkacjpjnaaComp
import Derived.Test.YtkekpgkacjpjnaaSlMore
namespace Fil
/-- those of a list of lists whose first is kept -/
def selL (kept : List Bool) (cs : List (List Nat)) : List (List Nat) := cs.filter fun c => kept.getD (c.headD 0) false
theorem selL_take {kept : List Bool} {cs : List (List Nat)} {i : Nat} {c : List Nat} (h : cs[i]? = some c) : selL kept (cs.take (i + 1)) = selL kept (cs.take i) ++ (if kept.getD (c.headD 0) false then [c] else []) := by
  rw [List.take_add_one, h, selL, List.filter_append]
  simp only [Option.toList_some, List.filter_cons, List.filter_nil]
  rfl
theorem selL_length (kept : List Bool) (cs : List (List Nat)) (i : Nat) : (selL kept (cs.take i)).length ≤ i := by
  have h1 := List.length_filter_le (fun c : List Nat => kept.getD (c.headD 0) false) (cs.take i)
  rw [List.length_take] at h1
  rw [selL]
  omega
end Fil
namespace Go.Proofs.Ytkekpgkacjpjnaa
open Go.RowKit Go.Sl Fil
set_option maxRecDepth 100000
set_option maxHeartbeats 8000000
set_option linter.unusedVariables false
set_option linter.unusedSimpArgs false
attribute [local irreducible] Code.wp wpList bodyPost wpQuiet Exit.then Exit.inBlock Post wpAnyH wpOp
theorem refPieces_ok (n : Int) (v : Value) (es : List E) (k s : Int) (o lab o' lab' : Nat → Nat) (w : World) (hs : Shp v es.length) (hr : RO w No v (esV es)) (hR : RightG n es) (hLev : Lev n.toNat (nb (tn es)) o lab) (hk : 1 ≤ k ∧ k ≤ 8 ∧ 0 ≤ s ∧ s ≤ k)
    (hLev' : Lev n.toNat (nb (tn (es.filter (keepE (keptL n.toNat k.toNat s.toNat o))))) o' lab') :
    Calls Try.prog 24 #[.agg #[.int .i64 n, v], .int .i64 k, .int .i64 s] w (Post w No fun r L' => ∃ ho : List Value, ho.length = (selL (keptL n.toNat k.toNat s.toNat o) (compsS n.toNat lab')).length ∧ L' = [rowHP r 27 1 (selL (keptL n.toNat k.toNat s.toNat o) (compsS n.toNat lab')).length ho, starHP (kids rowN ho (selL (keptL n.toNat k.toNat s.toNat o) (compsS n.toNat lab')))]) := by
  have hlo := hR.lo
  have hhi := hR.hi
  have hkl : (keptL n.toNat k.toNat s.toNat o).length = n.toNat := by simp [keptL]
  have hRf := hR.filter (keepE (keptL n.toNat k.toNat s.toNat o))
  refine enter0 (vs := [_, _, _]) Try.func24 rfl Try.ntmps24 rfl ?_
  repeat' first
    | refine k_then ?_
    | refine c_seq ?_
    | refine c_region ?_
    | refine s_nil ?_
    | refine s_move (by exact rfl) (by exact rfl) ?_
    | refine s_assign (by exact rfl) (by exact rfl) ?_
    | refine s_ldk_box (by exact rfl) (by exact rfl) (by exact .head _) (by exact rfl) (by exact rfl) ?_
    | refine o_box (by exact rfl) (by exact rfl) (fun b => ?_)
  refine o_call (by exact rfl) (by exact rfl) (fun w h => refKept_ok n v es k s o lab w hs (ro_old h hr) hR hLev hk) ?_
  rintro vk _ rfl
  refine know_row (v := vk) (.head _) fun hvk _ => ?_
  generalize hkd : keptL n.toNat k.toNat s.toNat o = kept at *
  repeat' first
    | refine k_then ?_
    | refine c_seq ?_
    | refine c_region ?_
    | refine s_nil ?_
    | refine s_move (by exact rfl) (by exact rfl) ?_
    | refine s_assign (by exact rfl) (by exact rfl) ?_
    | refine s_ldk_box (by exact rfl) (by exact rfl) (by exact .tail _ (.head _)) (by exact rfl) (by exact rfl) ?_
  refine o_call (by exact rfl) (by exact rfl) (fun w h => refOnly_ok n v es vk kept w hs (ro_old h hr) hR (by rw [hkl]; exact hvk) (ro_own h (by exact .head _)) hkl) ?_
  rintro _ _ ⟨vo, rfl, rfl⟩
  refine know_row (v := vo) (.head _) fun hvo _ => ?_
  skip
  refine o_call (by exact rfl) (by exact rfl) (fun w h => refComps_ok n vo (es.filter (keepE kept)) o' lab' w hvo (ro_own h (by exact .head _)) hRf hLev') ?_
  rintro vc _ ⟨hc, hcl, rfl⟩
  refine know_row (v := vc) (.head _) fun hvc _ => ?_
  have hle := hLev'.le
  generalize hN : n.toNat = N at *
  have hnN : n = (N : Int) := by omega
  subst hnN
  have hcN : (compsS N lab').length ≤ N := compsI_length N N lab'
  have hne : ∀ c ∈ compsS N lab', ∃ r t, r < N ∧ c = r :: t := fun c hc => by
    obtain ⟨r, h1, h2, rfl⟩ := comp_mem hc
    obtain ⟨t, ht⟩ := comp_head h1 h2 hle
    exact ⟨r, t, h1, ht⟩
  generalize hcs : compsS N lab' = cs at *
  repeat' first
    | refine k_then ?_
    | refine c_seq ?_
    | refine c_region ?_
    | refine s_nil ?_
    | refine s_assign (by exact rfl) (by exact rfl) ?_
    | refine c_block ?_
  refine c_nil 27 1 ?_
  refine c_star0 ?_
  refine c_loop (fun x : Nat × Value × List Value => x.1 ≤ cs.length ∧ x.2.2.length = (selL kept (cs.take x.1)).length) (fun x => [(7, vk), (8, vc), (9, x.2.1), (10, .int .i64 (x.1 : Int))])
    (fun x => [rowHP x.2.1 27 1 (selL kept (cs.take x.1)).length x.2.2, starHP (kids rowN x.2.2 (selL kept (cs.take x.1))), rowHP vc 27 1 cs.length hc, starHP (kids rowN (hc.drop x.1) (cs.drop x.1)), rowHP vk 4 1 N (bV kept)]) (fun x => cs.length - x.1) (0, .slice none 0 0, []) [1, 0, 0, 0, 1] ⟨Nat.zero_le _, rfl⟩ (by exact rfl) ⟨rfl, rfl, rfl, rfl, trivial⟩ ?_
  rintro ⟨i, vp, hp⟩ ⟨hi, hpl⟩
  dsimp only at hi hpl ⊢
  by_cases hil : i < cs.length
  · obtain ⟨c, hci⟩ : ∃ c, cs[i]? = some c := ⟨_, List.getElem?_eq_getElem hil⟩
    obtain ⟨hd, hhd⟩ : ∃ hd, hc[i]? = some hd := ⟨_, List.getElem?_eq_getElem (by omega)⟩
    obtain ⟨r, t, hrN, rfl⟩ := hne c (List.mem_of_getElem? hci)
    have hst := selL_take (kept := kept) hci
    have hsl := selL_length kept cs i
    have hhd1 : hc[i * 1]? = some hd := by simpa using hhd
    have hh0 : (nV (r :: t))[0 * 1]? = some (.int .i64 (r : Int)) := rfl
    have hkr := bV_get (l := kept) (k := r) (by omega)
    rw [kids_drop hhd hci]
    refine c_uncons 3 (by exact rfl) ?_
    refine know_row (v := hd) (e := 3) (sz := 1) (m := (r :: t).length) (ys := nV (r :: t)) (.head _) fun hhs _ => ?_
    have hpos : 0 < (r :: t).length := by simp
    cases hkp : kept.getD r false
    · rw [hkp] at hkr
      rw [show kept.getD ((r :: t).headD 0) false = false from hkp, if_neg (by simp), List.append_nil] at hst
      repeat' first
        | refine k_then ?_
        | refine c_seq ?_
        | refine c_region ?_
        | refine s_nil ?_
        | refine s_move (by exact rfl) (by exact rfl) ?_
        | refine s_assign (by exact rfl) (by exact rfl) ?_
        | refine s_lss (by exact rfl) (by exact rfl) (by exact rfl) ?_
        | refine s_add (by exact rfl) (by exact rfl) (by exact rfl) (by omega) ?_
        | refine s_len (by exact rfl) (by exact rfl) (by assumption) ?_
        | refine s_idx (by exact rfl) (by exact rfl) (by exact rfl) (by assumption) (by first | assumption | omega) ?_
        | refine s_ld_row (by exact rfl) (by exact rfl) (by first | exact .head _ | exact .tail _ (.tail _ (.tail _ (.head _))) | exact .tail _ (.tail _ (.tail _ (.tail _ (.tail _ (.head _)))))) (by assumption) ?_
        | refine c_block ?_
        | refine c_skip ?_
        | refine k_blk ?_
        | (refine c_cond_p (by exact rfl) (fun h => ?_) (fun h => ?_) <;> try (exfalso; omega))
        | refine c_cond_f (by exact rfl) ?_
      refine c_round (i + 1, vp, hp) [1, 1, 1, 1, 1] (by dsimp only; rw [hst]; rfl) (by exact ⟨rfl, rfl, rfl, rfl, trivial⟩) ⟨by dsimp only; omega, by dsimp only; rw [hst]; exact hpl⟩ (by dsimp only; omega)
    · rw [hkp] at hkr
      rw [show kept.getD ((r :: t).headD 0) false = true from hkp, if_pos rfl] at hst
      repeat' first
        | refine k_then ?_
        | refine c_seq ?_
        | refine c_region ?_
        | refine s_nil ?_
        | refine s_move (by exact rfl) (by exact rfl) ?_
        | refine s_lss (by exact rfl) (by exact rfl) (by exact rfl) ?_
        | refine s_len (by exact rfl) (by exact rfl) (by assumption) ?_
        | refine s_idx (by exact rfl) (by exact rfl) (by exact rfl) (by assumption) (by first | assumption | omega) ?_
        | refine s_ld_row (by exact rfl) (by exact rfl) (by first | exact .head _ | exact .tail _ (.tail _ (.tail _ (.head _))) | exact .tail _ (.tail _ (.tail _ (.tail _ (.tail _ (.head _)))))) (by assumption) ?_
        | refine c_block ?_
        | refine c_skip ?_
        | (refine c_cond_p (by exact rfl) (fun h => ?_) (fun h => ?_) <;> try (exfalso; omega))
        | refine c_cond_t (by exact rfl) ?_
      refine o_mk [hd] (by exact rfl) (by exact rfl) rfl ?_ ?_ (by simp) fun vt hvt => ?_
      · intro u hu
        obtain rfl : u = hd := by simpa using hu
        rw [← Array.length_toList, one_cells hhs.one]; rfl
      · simp
      rw [show ([hd].flatMap fun u => u.cells.toList) = [hd] from by simp [one_cells hhs.one]]
      skip
      refine o_append_row (i := 2) (by exact rfl) (by exact rfl) (by exact rfl) (by exact rfl) (by exact .head _) (by exact rfl) (by simp [hhs.one]) ?_ fun vp2 hvp2 => ?_
      · omega
      repeat' first
        | refine k_then ?_
        | refine c_region ?_
        | refine s_nil ?_
        | refine s_move (by exact rfl) (by exact rfl) ?_
        | refine s_assign (by exact rfl) (by exact rfl) ?_
        | refine s_add (by exact rfl) (by exact rfl) (by exact rfl) (by omega) ?_
        | refine k_blk ?_
      refine c_pick [1, 1, 1, 1, 1, 1] (by exact rfl) ?_
      refine c_pushk 1 (by exact rfl) ?_
      refine c_round (i + 1, vp2, hp ++ [hd]) [0, 0, 0, 0, 0] ?_ (by exact ⟨rfl, rfl, rfl, rfl, trivial⟩) ⟨by dsimp only; omega, by dsimp only; rw [hst, List.length_append, List.length_append, hpl]; rfl⟩ (by dsimp only; omega)
      dsimp only
      rw [hst, kids_append hpl, List.length_append]
      rfl
  · repeat' first
      | refine k_then ?_
      | refine c_seq ?_
      | refine c_region ?_
      | refine s_nil ?_
      | refine s_move (by exact rfl) (by exact rfl) ?_
      | refine s_assign (by exact rfl) (by exact rfl) ?_
      | refine s_lss (by exact rfl) (by exact rfl) (by exact rfl) ?_
      | refine s_len (by exact rfl) (by exact rfl) (by assumption) ?_
      | refine c_exit ?_
      | refine c_ret ?_
      | refine k_then_exit ?_
      | refine k_blk_eq ?_
      | (refine c_cond_p (by exact rfl) (fun h => ?_) (fun h => ?_) <;> try (exfalso; omega))
    obtain rfl : i = cs.length := by omega
    rw [List.take_length] at *
    refine ret1 [0, 0] rfl rfl rfl ⟨hp, hpl, rfl⟩
end Go.Proofs.Ytkekpgkacjpjnaa
