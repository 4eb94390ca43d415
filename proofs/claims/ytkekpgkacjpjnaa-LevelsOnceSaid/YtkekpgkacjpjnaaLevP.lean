/- Package levels: the pieces that are left by a shift; and levels as one function that is given. -/
import Derived.Test.YtkekpgkacjpjnaaPieces
set_option linter.unusedVariables false
namespace Fil
theorem Lev.nb_of {N : Nat} {l : List (Nat × Nat)} {o lab : Nat → Nat} (h : Lev N (nearS l) o lab) : Lev N (nb l) o lab :=
  h.congr fun v _ u => mem_nearS
theorem Lev.near_of {N : Nat} {l : List (Nat × Nat)} {o lab : Nat → Nat} (h : Lev N (nb l) o lab) : Lev N (nearS l) o lab :=
  h.congr fun v _ u => mem_nearS.symm
theorem keptL_map {N k s : Nat} {out : List Nat} (hs : s ≤ k) (ho : out.length = N) : (out.map fun x => decide ((x + k + 1 - s) % (k + 1) ≠ 0)) = keptL N k s (fun v => out.getD v 0) := by
  rw [keptL, ← ho, map_getD out 0 (fun x => decide (x % (k + 1) ≠ s))]
  apply List.map_congr_left
  intro x _
  exact decide_eq_decide.2 (not_congr (shift_iff hs))
theorem keptL_congr {N k s : Nat} {o o' : Nat → Nat} (h : ∀ v, v < N → o v = o' v) : keptL N k s o = keptL N k s o' := by
  apply List.map_congr_left
  intro v hv
  rw [h v (by simpa using hv)]
theorem list_map_getD {N : Nat} {out : List Nat} {o : Nat → Nat} (hl : out.length = N) (h : ∀ v, v < N → out.getD v 0 = o v) : out = (List.range N).map o := list_of_getD hl h
end Fil
namespace Go.Proofs.Ytkekpgkacjpjnaa
open Go.RowKit Go.Sl Fil
set_option maxRecDepth 100000
set_option maxHeartbeats 8000000
set_option linter.unusedVariables false
set_option linter.unusedSimpArgs false
attribute [local irreducible] Code.wp wpList bodyPost wpQuiet Exit.then Exit.inBlock Post wpAnyH wpOp
theorem levOf2_ok (n : Int) (v : Value) (es : List E) (o lab : Nat → Nat) (w : World) (hs : Shp v es.length) (hr : RO w No v (esV es)) (hR : RightG n es) (hLev : Lev n.toNat (nb (tn es)) o lab) :
    Calls Try.prog 15 #[.agg #[.int .i64 n, v]] w (Post w No fun r L' => ∃ vo : Value, r = .tuple #[vo, .int .i64 0] ∧ L' = [rowHP vo 3 1 n.toNat (nV ((List.range n.toNat).map o))]) := by
  refine (levOf_ok n v es w hs hr hR).mono (Post.imp ?_)
  rintro r L ⟨out, lab', vo, rfl, rfl, hl, hL⟩
  exact ⟨vo, rfl, by rw [list_map_getD hl (hL.nb_of.o_eq hR.good.adj hLev)]⟩
theorem kept2_ok (n : Int) (v : Value) (es : List E) (k s : Int) (w : World) (hs : Shp v es.length) (hr : RO w No v (esV es)) (hR : RightG n es) (hk : 1 ≤ k ∧ k ≤ 8 ∧ 0 ≤ s ∧ s ≤ k) :
    Calls Try.prog 19 #[.agg #[.int .i64 n, v], .int .i64 k, .int .i64 s] w (Post w No fun r L' => ∃ (o lab : Nat → Nat) (vo : Value), Lev n.toNat (nb (tn es)) o lab ∧ r = .tuple #[vo, .int .i64 0] ∧ L' = [rowHP vo 4 1 n.toNat (bV (keptL n.toNat k.toNat s.toNat o))]) := by
  refine (Kept_ok n v es k s w hs hr hR hk).mono (Post.imp ?_)
  rintro r L ⟨out, lab, vo, rfl, rfl, hl, hL⟩
  exact ⟨fun v => out.getD v 0, lab, vo, hL.nb_of, rfl, by rw [keptL_map (by omega) hl]⟩
theorem kept3_ok (n : Int) (v : Value) (es : List E) (k s : Int) (o lab : Nat → Nat) (w : World) (hs : Shp v es.length) (hr : RO w No v (esV es)) (hR : RightG n es) (hLev : Lev n.toNat (nb (tn es)) o lab) (hk : 1 ≤ k ∧ k ≤ 8 ∧ 0 ≤ s ∧ s ≤ k) :
    Calls Try.prog 19 #[.agg #[.int .i64 n, v], .int .i64 k, .int .i64 s] w (Post w No fun r L' => ∃ vo : Value, r = .tuple #[vo, .int .i64 0] ∧ L' = [rowHP vo 4 1 n.toNat (bV (keptL n.toNat k.toNat s.toNat o))]) := by
  refine (kept2_ok n v es k s w hs hr hR hk).mono (Post.imp ?_)
  rintro r L ⟨o', lab', vo, hL, rfl, rfl⟩
  exact ⟨vo, rfl, by rw [keptL_congr (hL.o_eq hR.good.adj hLev)]⟩

theorem Pieces_ok (n : Int) (v : Value) (es : List E) (k s : Int) (o lab : Nat → Nat) (w : World) (hs : Shp v es.length) (hr : RO w No v (esV es)) (hR : RightG n es) (hLev : Lev n.toNat (nb (tn es)) o lab) (hk : 1 ≤ k ∧ k ≤ 8 ∧ 0 ≤ s ∧ s ≤ k) :
    Calls Try.prog 20 #[.agg #[.int .i64 n, v], .int .i64 k, .int .i64 s] w (Post w No fun r L' => ∃ (o' lab' : Nat → Nat) (vo : Value) (ho : List Value), Lev n.toNat (nb (tn (es.filter (keepE (keptL n.toNat k.toNat s.toNat o))))) o' lab' ∧ r = .tuple #[vo, .int .i64 0] ∧ ho.length = (selL (keptL n.toNat k.toNat s.toNat o) (compsS n.toNat lab')).length ∧ L' = [rowHP vo 27 1 (selL (keptL n.toNat k.toNat s.toNat o) (compsS n.toNat lab')).length ho, starHP (kids rowN ho (selL (keptL n.toNat k.toNat s.toNat o) (compsS n.toNat lab')))]) := by
  have hlo := hR.lo
  have hhi := hR.hi
  have hkl : (keptL n.toNat k.toNat s.toNat o).length = n.toNat := by simp [keptL]
  have hRf := hR.filter (keepE (keptL n.toNat k.toNat s.toNat o))
  refine enter0 (vs := [_, _, _]) Try.func20 rfl Try.ntmps20 rfl ?_
  repeat' first
    | refine k_then ?_
    | refine c_seq ?_
    | refine c_region ?_
    | refine s_nil ?_
    | refine s_move (by exact rfl) (by exact rfl) ?_
    | refine s_assign (by exact rfl) (by exact rfl) ?_
    | refine s_ldk_box (by exact rfl) (by exact rfl) (by exact .head _) (by exact rfl) (by exact rfl) ?_
    | refine o_box (by exact rfl) (by exact rfl) (fun b => ?_)
  refine o_call (by exact rfl) (by exact rfl) (fun w h => kept3_ok n v es k s o lab w hs (ro_old h hr) hR hLev hk) ?_
  rintro _ _ ⟨vk, rfl, rfl⟩
  refine know_row (v := vk) (.head _) fun hvk _ => ?_
  generalize hkd : keptL n.toNat k.toNat s.toNat o = kept at *
  repeat' first
    | refine k_then ?_
    | refine c_seq ?_
    | refine c_region ?_
    | refine s_nil ?_
    | refine s_move (by exact rfl) (by exact rfl) ?_
    | refine s_assign (by exact rfl) (by exact rfl) ?_
    | refine s_neq (by exact rfl) (by exact rfl) (by exact rfl) ?_
    | refine s_extract (by exact rfl) (by exact rfl) (by exact rfl) ?_
    | refine s_ldk_box (by exact rfl) (by exact rfl) (by exact .tail _ (.head _)) (by exact rfl) (by exact rfl) ?_
    | refine c_skip ?_
    | (refine c_cond_p (by exact rfl) (fun h => ?_) (fun h => ?_) <;> try (exfalso; omega))
  refine o_call (by exact rfl) (by exact rfl) (fun w h => Only_ok n v es vk kept w hs (ro_old h hr) hR (by rw [hkl]; exact hvk) (ro_own h (by exact .head _))) ?_
  rintro _ _ ⟨vo, rfl, rfl⟩
  refine know_row (v := vo) (.head _) fun hvo _ => ?_
  skip
  refine o_call (by exact rfl) (by exact rfl) (fun w h => Components_ok n vo (es.filter (keepE kept)) w hvo (ro_own h (by exact .head _)) hRf) ?_
  rintro vc _ ⟨met, out, lab', hc, hB, hcl, rfl⟩
  have hLev' := hB.lev
  rw [hB.comps] at *
  refine know_row (v := vc) (.head _) fun hvc _ => ?_
  have hle := hLev'.le
  generalize hN : n.toNat = N at *
  have hnN : n = (N : Int) := by omega
  subst hnN
  have hcN : (compsS N lab').length ≤ N := compsI_length N N lab'
  have hne : ∀ c ∈ compsS N lab', ∃ r t, r < N ∧ c = r :: t := fun c hc => by
    obtain ⟨r, h1, h2, rfl⟩ := comp_mem hc
    obtain ⟨t, ht⟩ := comp_head h1 h2 hle
    exact ⟨r, t, h1, ht⟩
  generalize hcs : compsS N lab' = cs at *
  repeat' first
    | refine k_then ?_
    | refine s_nil ?_
    | refine s_move (by exact rfl) (by exact rfl) ?_
    | refine s_len (by exact rfl) (by exact rfl) (by assumption) ?_
    | refine c_block ?_
  refine c_nil 27 1 ?_
  refine c_star0 ?_
  refine c_loop (fun x : Nat × Value × List Value => x.1 ≤ cs.length ∧ x.2.2.length = (selL kept (cs.take x.1)).length) (fun x => [(6, x.2.1), (8, vk), (24, vc), (25, .int .i64 (cs.length : Int)), (26, .int .i64 (x.1 : Int))])
    (fun x => [rowHP x.2.1 27 1 (selL kept (cs.take x.1)).length x.2.2, starHP (kids rowN x.2.2 (selL kept (cs.take x.1))), rowHP vc 27 1 cs.length hc, starHP (kids rowN (hc.drop x.1) (cs.drop x.1)), rowHP vk 4 1 N (bV kept)]) (fun x => cs.length - x.1) (0, .slice none 0 0, []) [1, 0, 0, 0, 1] ⟨Nat.zero_le _, rfl⟩ (by exact rfl) ⟨rfl, rfl, rfl, rfl, rfl, trivial⟩ ?_
  rintro ⟨i, vp, hp⟩ ⟨hi, hpl⟩
  dsimp only at hi hpl ⊢
  by_cases hil : i < cs.length
  · obtain ⟨c, hci⟩ : ∃ c, cs[i]? = some c := ⟨_, List.getElem?_eq_getElem hil⟩
    obtain ⟨hd, hhd⟩ : ∃ hd, hc[i]? = some hd := ⟨_, List.getElem?_eq_getElem (by omega)⟩
    obtain ⟨r, t, hrN, rfl⟩ := hne c (List.mem_of_getElem? hci)
    have hst := selL_take (kept := kept) hci
    have hsl := selL_length kept cs i
    have hhd1 : hc[i * 1]? = some hd := by simpa using hhd
    have hh0 : (nV (r :: t))[0 * 1]? = some (.int .i64 (r : Int)) := rfl
    have hkr := bV_get (l := kept) (k := r) (by omega)
    rw [kids_drop hhd hci]
    refine c_uncons 3 (by exact rfl) ?_
    refine know_row (v := hd) (e := 3) (sz := 1) (m := (r :: t).length) (ys := nV (r :: t)) (.head _) fun hhs _ => ?_
    have hpos : 0 < (r :: t).length := by simp
    cases hkp : kept.getD r false
    · rw [hkp] at hkr
      rw [show kept.getD ((r :: t).headD 0) false = false from hkp, if_neg (by simp), List.append_nil] at hst
      repeat' first
        | refine k_then ?_
        | refine c_seq ?_
        | refine c_region ?_
        | refine s_nil ?_
        | refine s_move (by exact rfl) (by exact rfl) ?_
        | refine s_assign (by exact rfl) (by exact rfl) ?_
        | refine s_lss (by exact rfl) (by exact rfl) (by exact rfl) ?_
        | refine s_add (by exact rfl) (by exact rfl) (by exact rfl) (by omega) ?_
        | refine s_idx (by exact rfl) (by exact rfl) (by exact rfl) (by assumption) (by first | assumption | omega) ?_
        | refine s_ld_row (by exact rfl) (by exact rfl) (by first | exact .head _ | exact .tail _ (.tail _ (.tail _ (.head _))) | exact .tail _ (.tail _ (.tail _ (.tail _ (.tail _ (.head _)))))) (by assumption) ?_
        | refine c_block ?_
        | refine c_skip ?_
        | refine k_blk ?_
        | (refine c_cond_p (by exact rfl) (fun h => ?_) (fun h => ?_) <;> try (exfalso; omega))
        | refine c_cond_f (by exact rfl) ?_
      refine c_round (i + 1, vp, hp) [1, 1, 1, 1, 1] (by dsimp only; rw [hst]; rfl) (by exact ⟨rfl, rfl, rfl, rfl, rfl, trivial⟩) ⟨by dsimp only; omega, by dsimp only; rw [hst]; exact hpl⟩ (by dsimp only; omega)
    · rw [hkp] at hkr
      rw [show kept.getD ((r :: t).headD 0) false = true from hkp, if_pos rfl] at hst
      repeat' first
        | refine k_then ?_
        | refine c_seq ?_
        | refine c_region ?_
        | refine s_nil ?_
        | refine s_move (by exact rfl) (by exact rfl) ?_
        | refine s_assign (by exact rfl) (by exact rfl) ?_
        | refine s_lss (by exact rfl) (by exact rfl) (by exact rfl) ?_
        | refine s_idx (by exact rfl) (by exact rfl) (by exact rfl) (by assumption) (by first | assumption | omega) ?_
        | refine s_ld_row (by exact rfl) (by exact rfl) (by first | exact .head _ | exact .tail _ (.tail _ (.tail _ (.head _))) | exact .tail _ (.tail _ (.tail _ (.tail _ (.tail _ (.head _)))))) (by assumption) ?_
        | refine c_block ?_
        | refine c_skip ?_
        | (refine c_cond_p (by exact rfl) (fun h => ?_) (fun h => ?_) <;> try (exfalso; omega))
        | refine c_cond_t (by exact rfl) ?_
      refine o_mk [hd] (by exact rfl) (by exact rfl) rfl ?_ ?_ (by simp) fun vt hvt => ?_
      · intro u hu
        obtain rfl : u = hd := by simpa using hu
        rw [← Array.length_toList, one_cells hhs.one]; rfl
      · simp
      rw [show ([hd].flatMap fun u => u.cells.toList) = [hd] from by simp [one_cells hhs.one]]
      skip
      refine o_append_row (i := 2) (by exact rfl) (by exact rfl) (by exact rfl) (by exact rfl) (by exact .head _) (by exact rfl) (by simp [hhs.one]) ?_ fun vp2 hvp2 => ?_
      · omega
      repeat' first
        | refine k_then ?_
        | refine c_region ?_
        | refine s_nil ?_
        | refine s_move (by exact rfl) (by exact rfl) ?_
        | refine s_assign (by exact rfl) (by exact rfl) ?_
        | refine s_add (by exact rfl) (by exact rfl) (by exact rfl) (by omega) ?_
        | refine k_blk ?_
      refine c_pick [1, 1, 1, 1, 1, 1] (by exact rfl) ?_
      refine c_pushk 1 (by exact rfl) ?_
      refine c_round (i + 1, vp2, hp ++ [hd]) [0, 0, 0, 0, 0] ?_ (by exact ⟨rfl, rfl, rfl, rfl, rfl, trivial⟩) ⟨by dsimp only; omega, by dsimp only; rw [hst, List.length_append, List.length_append, hpl]; rfl⟩ (by dsimp only; omega)
      dsimp only
      rw [hst, kids_append hpl, List.length_append]
      rfl
  · repeat' first
      | refine k_then ?_
      | refine c_seq ?_
      | refine c_region ?_
      | refine s_nil ?_
      | refine s_move (by exact rfl) (by exact rfl) ?_
      | refine s_assign (by exact rfl) (by exact rfl) ?_
      | refine s_lss (by exact rfl) (by exact rfl) (by exact rfl) ?_
      | refine c_exit ?_
      | refine c_ret ?_
      | refine k_then_exit ?_
      | refine k_blk_eq ?_
      | (refine c_cond_p (by exact rfl) (fun h => ?_) (fun h => ?_) <;> try (exfalso; omega))
    obtain rfl : i = cs.length := by omega
    rw [List.take_length] at *
    refine ret2 [0, 0] rfl rfl rfl rfl ⟨_, lab', vp, hp, hLev', rfl, ?_, ?_⟩
    · rw [hcs]; exact hpl
    · rw [hcs]
end Go.Proofs.Ytkekpgkacjpjnaa
