/- Of RotationRight RotationForest RotationFaces RotationEuler: part 5: what the walks rest on, contracts of functions and plain lemmas; no condition but those that each states. -/
import Derived.Test.YtpajjnkmaebhcaaRa4
set_option linter.unusedVariables false
set_option linter.unusedSimpArgs false
section
set_option linter.unusedVariables false
namespace Fil
theorem Fs.len {G : Nat × Nat → Nat × Nat} {ds : List (Nat × Nat)} {out : List (List (Nat × Nat))} (h : Fs G ds out) : out.flatten.length ≤ ds.length ∧ out.length ≤ out.flatten.length :=
  ⟨sub_length h.nd h.sub, flat_le fun l hl => (h.cy l hl).1⟩
theorem Fs.all {G : Nat × Nat → Nat × Nat} {ds : List (Nat × Nat)} {n : Nat} (hi : ∀ a ∈ ds, ∀ b ∈ ds, G a = G b → a = b) (hm : ∀ a ∈ ds, G a ∈ ds) (hn : ds.length ≤ n) (l : List (Nat × Nat)) (hl : ∀ z ∈ l, z ∈ ds) : Fs G ds (l.foldl (facesStep G n) []) :=
  (Fs.fold hi hm hn l [] ⟨by simp, by simp, by simp⟩ hl).1
end Fil
namespace Go.Proofs.Ytpajjnkmaebhcaa
open Go Go.RowKit Go.Sl Fil
set_option maxRecDepth 100000
set_option maxHeartbeats 8000000
set_option linter.unusedVariables false
set_option linter.unusedSimpArgs false
attribute [local irreducible] Code.wp wpList bodyPost wpQuiet Exit.then Exit.inBlock Post wpAnyH wpOp
theorem in_ok (v : Value) (l : List (Nat × Nat)) (d : Nat × Nat) (w : World) (hs : Shp v l.length) (hr : RO w No v (dsV l)) :
    Calls Try.prog 47 #[v, .agg #[.int .i64 (d.1 : Int), .int .i64 (d.2 : Int)]] w (Post w No (Just (.bool (decide (d ∈ l))))) := by
  have hm := hs.1
  simp only [maxLen] at hm
  refine enter0 (vs := [_, _]) Try.func47 rfl Try.ntmps47 rfl ?_
  repeat' first
    | refine k_then ?_
    | refine c_seq ?_
    | refine c_region ?_
    | refine s_nil ?_
    | refine s_assign (by exact rfl) (by exact rfl) ?_
    | refine o_box (by exact rfl) (by exact rfl) (fun b => ?_)
    | refine c_block ?_
  refine c_loop (fun k : Nat => k ≤ l.length ∧ ∀ z ∈ l.take k, z ≠ d) (fun k => [(0, v), (3, .pointer (some ⟨b, 0, none⟩)), (4, .bool false), (5, .int .i64 (k : Int))]) (fun _ => [boxHP b 43 (Value.agg #[.int .i64 (d.1 : Int), .int .i64 (d.2 : Int)]).cells.toList]) (fun k => l.length - k) 0 [0] ⟨Nat.zero_le _, by simp⟩ rfl ⟨rfl, rfl, rfl, rfl, trivial⟩ ?_
  rintro k ⟨hk, hq⟩
  by_cases hlt : k < l.length
  · obtain ⟨z, hz⟩ : ∃ z, l[k]? = some z := ⟨_, List.getElem?_eq_getElem hlt⟩
    have hE := dsV_at hz
    repeat' first
      | refine k_then ?_
      | refine c_seq ?_
      | refine c_region ?_
      | refine s_nil ?_
      | refine s_move (by exact rfl) (by exact rfl) ?_
      | refine s_lss (by exact rfl) (by exact rfl) (by exact rfl) ?_
      | refine s_len (by exact rfl) (by exact rfl) (by assumption) ?_
      | refine c_block ?_
      | refine c_skip ?_
      | (refine c_cond_p (by exact rfl) (fun h => ?_) (fun h => ?_) <;> try (exfalso; omega))
    refine p_begin0 [(0, true), (1, true), (2, true), (3, true), (4, true), (5, true)] (by kernel_rfl) ?_
    repeat' first
      | (refine p_at (by exact rfl) ?_
         first
          | refine t_move (by exact rfl) (by exact rfl) (by exact fun _ h => h) ?_
          | refine t_idx (by exact rfl) (by exact rfl) (by exact rfl) (by assumption) (by first | assumption | omega) (by exact fun _ h => h) ?_
          | refine t_ldk_box (by exact rfl) (by exact rfl) (by exact .head _) (by exact rfl) (by exact rfl) (by exact fun _ h => h) ?_
          | refine t_ldk_ro (by exact rfl) (by exact rfl) (by assumption) (by decide) (by assumption) (by exact rfl) (by exact fun _ h => h) ?_)
    refine p_at (by exact rfl) ?_
    refine t_eql2 (by exact rfl) (by exact rfl) (by exact rfl) (by exact fun _ h => h) ?_
    repeat' first
      | refine p_nil ?_
    repeat' first
      | refine k_then ?_
      | refine c_seq ?_
      | refine c_region ?_
      | refine s_nil ?_
      | refine s_move (by exact rfl) (by exact rfl) ?_
      | refine s_assign (by exact rfl) (by exact rfl) ?_
      | refine s_add (by exact rfl) (by exact rfl) (by exact rfl) (by omega) ?_
      | refine c_skip ?_
      | refine c_ret ?_
      | refine k_then_ret ?_
      | refine k_blk ?_
      | refine k_blk_ret ?_
      | (refine c_cond_p (by exact rfl) (fun h => ?_) (fun h => ?_) <;> try (exfalso; omega))
    · refine ret1 [] rfl rfl rfl ⟨congrArg Value.bool ?_, rfl⟩
      refine (decide_eq_true ?_).symm
      have e : z = d := Prod.ext (by omega) (by omega)
      exact e ▸ List.mem_of_getElem? hz
    · refine c_round (k + 1) [0] (by exact rfl) ⟨rfl, rfl, rfl, rfl, trivial⟩ ⟨by omega, fun y hy => ?_⟩ (by omega)
      rw [List.take_add_one, hz] at hy
      rcases List.mem_append.1 hy with hy | hy
      · exact hq y hy
      · obtain rfl : y = z := by simpa using hy
        intro e
        subst e
        exact h ⟨rfl, rfl⟩
  · repeat' first
      | refine k_then ?_
      | refine c_seq ?_
      | refine c_region ?_
      | refine s_nil ?_
      | refine s_move (by exact rfl) (by exact rfl) ?_
      | refine s_assign (by exact rfl) (by exact rfl) ?_
      | refine s_lss (by exact rfl) (by exact rfl) (by exact rfl) ?_
      | refine s_len (by exact rfl) (by exact rfl) (by assumption) ?_
      | refine c_exit ?_
      | refine c_ret ?_
      | refine k_then_exit ?_
      | refine k_blk_eq ?_
      | (refine c_cond_p (by exact rfl) (fun h => ?_) (fun h => ?_) <;> try (exfalso; omega))
    refine ret1 [] rfl rfl rfl ⟨congrArg Value.bool ?_, rfl⟩
    refine (decide_eq_false fun hd => ?_).symm
    rw [List.take_of_length_le (by omega)] at hq
    exact hq d hd rfl
theorem refFaces_ok (n : Int) (v : Value) (es : List E) (vr : Value) (hr0 : List Value) (R : List (List Nat)) (w : World) (hs : Shp v es.length) (hr : RO w No v (esV es)) (hG : RightG n es) (hR : ROs w No vr hr0 R) (hRot : RotL n.toNat (tn es) R) :
    Calls Try.prog 18 #[.agg #[.int .i64 n, v], vr] w (Post w No fun vo L' => ∃ ho : List Value, ho.length = (facesR n.toNat (tn es) R).length ∧ L' = [rowHP vo 41 1 (facesR n.toNat (tn es) R).length ho, starHP (kids rowD ho (facesR n.toNat (tn es) R))]) := by
  have hsr := hR.shp
  have hrr := hR.ro
  have hlo := hG.lo
  have hhi := hG.hi
  have hmany := hG.many
  have hRl := hRot.len
  refine enter0 (vs := [_, _]) Try.func18 rfl Try.ntmps18 rfl ?_
  repeat' first
    | refine k_then ?_
    | refine c_seq ?_
    | refine c_region ?_
    | refine s_nil ?_
    | refine s_assign (by exact rfl) (by exact rfl) ?_
    | refine o_box (by exact rfl) (by exact rfl) (fun b => ?_)
    | refine c_block ?_
  revert b; intro bg
  have hi := all_inj hG hRot
  have hm := all_mem hG hRot
  have hdl := dartsAll_length hG
  have hin : ∀ d ∈ dartsAll n.toNat (tn es), d.1 < n.toNat ∧ d.2 < n.toNat := fun d hd => dart_lt hG hd
  have hdm : ∀ d : Nat × Nat, d ∈ dartsAll n.toNat (tn es) ↔ d.2 ∈ rf R d.1 := fun d => dart_in hG hRot
  have hnx : ∀ d ∈ dartsAll n.toNat (tn es), nextK (intL R) (d.1 : Int) (d.2 : Int) = (((nxt (rf R) d).1 : Int), ((nxt (rf R) d).2 : Int), true) := fun d hd =>
    nextK_nxt (by have := (hin d hd).2; omega) ((hRot.sys hG).sym ((hdm d).1 hd))
  have hnf : ∀ u, ((List.range n.toNat).filter fun v => decide (v ∈ rf R u)).map (fun x => (u, x)) = vc (nearS (tn es)) u := fun u => by rw [near_filter hG hRot, vc]
  have hfR : facesR n.toNat (tn es) R = (dartsOf (nearS (tn es)) (List.range n.toNat)).foldl (facesStep (nxt (rf R)) (2 * es.length + 1)) [] := by rw [facesR, facesL, tn_len, dartsAll]
  have hsub : ∀ u, u ≤ n.toNat → ∀ z ∈ dartsOf (nearS (tn es)) (List.range u), z ∈ dartsAll n.toNat (tn es) := fun u hu z hz => by
    obtain ⟨h1, h2⟩ := mem_darts.1 hz
    exact mem_darts.2 ⟨List.mem_range.2 (by have := List.mem_range.1 h1; omega), h2⟩
  rw [hfR]
  generalize dartsAll n.toNat (tn es) = ds at *
  generalize nxt (rf R) = G at *
  have hFa : ∀ l : List (Nat × Nat), (∀ z ∈ l, z ∈ ds) → Fs G ds (l.foldl (facesStep G (2 * es.length + 1)) []) := fun l hl => Fs.all hi hm (by omega) l hl
  generalize hN : n.toNat = N at *
  have hnN : n = (N : Int) := by omega
  subst hnN
  refine c_nil 43 2 ?_
  refine c_nil 41 1 ?_
  refine c_star0 ?_
  refine c_loop (fun x : Nat × Value × List Value × Value => x.1 ≤ N ∧ x.2.2.1.length = ((dartsOf (nearS (tn es)) (List.range x.1)).foldl (facesStep G (2 * es.length + 1)) []).length)
    (fun x => [(1, vr), (2, .pointer (some ⟨bg, 0, none⟩)), (5, x.2.1), (6, x.2.2.2), (7, .int .i64 (x.1 : Int))])
    (fun x => [rowHP x.2.1 41 1 ((dartsOf (nearS (tn es)) (List.range x.1)).foldl (facesStep G (2 * es.length + 1)) []).length x.2.2.1, starHP (kids rowD x.2.2.1 ((dartsOf (nearS (tn es)) (List.range x.1)).foldl (facesStep G (2 * es.length + 1)) [])),
      rowHP x.2.2.2 43 2 ((dartsOf (nearS (tn es)) (List.range x.1)).foldl (facesStep G (2 * es.length + 1)) []).flatten.length (dsV ((dartsOf (nearS (tn es)) (List.range x.1)).foldl (facesStep G (2 * es.length + 1)) []).flatten), boxHP bg 24 [.int .i64 (N : Int), v]])
    (fun x => N - x.1) (0, .slice none 0 0, [], .slice none 0 0) [1, 0, 0, 0] ⟨Nat.zero_le _, rfl⟩ (by exact rfl) ⟨rfl, rfl, rfl, rfl, rfl, trivial⟩ ?_
  rintro ⟨u, vo, ho, vm⟩ ⟨hu, hol⟩
  dsimp only at hu hol ⊢
  have hFu := hFa _ (hsub u hu)
  have hdsu : dartsOf (nearS (tn es)) (List.range (u + 1)) = dartsOf (nearS (tn es)) (List.range u) ++ vc (nearS (tn es)) u := by rw [List.range_succ, dartsOf, List.flatMap_append]; simp [dartsOf]
  by_cases hlt : u < N
  · obtain ⟨hx, hhx⟩ : ∃ x, hr0[u]? = some x := ⟨_, List.getElem?_eq_getElem (by have := hR.len; omega)⟩
    obtain ⟨l, hl⟩ : ∃ l, R[u]? = some l := ⟨_, List.getElem?_eq_getElem (by omega)⟩
    obtain ⟨hsx, hrx⟩ := hR.kid u hx l hhx hl
    have hgd : rf R u = l := by rw [rf, List.getD_eq_getElem?_getD, hl]; rfl
    have h1' : hr0[u * 1]? = some hx := by rw [Nat.mul_one]; exact hhx
    have hnfu := hnf u
    rw [hgd] at hnfu
    have hPs : ∀ k, ((List.range (k + 1)).filter fun v => decide (v ∈ l)).map (fun x => (u, x)) = ((List.range k).filter fun v => decide (v ∈ l)).map (fun x => (u, x)) ++ if k ∈ l then [(u, k)] else [] := fun k => by
      rw [List.range_succ, List.filter_append, List.map_append]
      by_cases hk : k ∈ l <;> simp [hk]
    have hPm : ∀ k, k < N → k ∈ l → (u, k) ∈ ds := fun k hk hkl => (hdm (u, k)).2 (by rw [hgd]; exact hkl)
    have hFk : ∀ k, k ≤ N → Fs G ds ((((List.range k).filter fun v => decide (v ∈ l)).map (fun x => (u, x))).foldl (facesStep G (2 * es.length + 1)) ((dartsOf (nearS (tn es)) (List.range u)).foldl (facesStep G (2 * es.length + 1)) [])) := fun k hk => by
      rw [← List.foldl_append]
      refine hFa _ fun z hz => ?_
      rcases List.mem_append.1 hz with hz | hz
      · exact hsub u hu z hz
      · obtain ⟨x, hx, rfl⟩ := List.mem_map.1 hz
        obtain ⟨h1, h2⟩ := List.mem_filter.1 hx
        exact hPm x (by have := List.mem_range.1 h1; omega) (by simpa using h2)
    have hO1 : (dartsOf (nearS (tn es)) (List.range (u + 1))).foldl (facesStep G (2 * es.length + 1)) [] = (((List.range N).filter fun v => decide (v ∈ l)).map (fun x => (u, x))).foldl (facesStep G (2 * es.length + 1)) ((dartsOf (nearS (tn es)) (List.range u)).foldl (facesStep G (2 * es.length + 1)) []) := by rw [hdsu, List.foldl_append, hnfu]
    generalize (dartsOf (nearS (tn es)) (List.range u)).foldl (facesStep G (2 * es.length + 1)) [] = X at *
    repeat' first
      | refine k_then ?_
      | refine c_seq ?_
      | refine c_region ?_
      | refine s_nil ?_
      | refine s_move (by exact rfl) (by exact rfl) ?_
      | refine s_assign (by exact rfl) (by exact rfl) ?_
      | refine s_fa (by exact rfl) (by exact rfl) ?_
      | refine s_ld_box (by exact rfl) (by exact rfl) (by exact .tail _ (.tail _ (.tail _ (.head _)))) (by exact rfl) ?_
      | refine s_lss (by exact rfl) (by exact rfl) (by exact rfl) ?_
      | refine c_block ?_
      | refine c_skip ?_
      | (refine c_cond_p (by exact rfl) (fun h => ?_) (fun h => ?_) <;> try (exfalso; omega))
    refine c_loop (fun x : Nat × Value × List Value × Value => x.1 ≤ N ∧ x.2.2.1.length = ((((List.range x.1).filter fun v => decide (v ∈ l)).map (fun x => (u, x))).foldl (facesStep G (2 * es.length + 1)) X).length)
      (fun x => [(1, vr), (2, .pointer (some ⟨bg, 0, none⟩)), (5, x.2.1), (6, x.2.2.2), (7, .int .i64 (u : Int)), (8, .int .i64 (x.1 : Int))])
      (fun x => [rowHP x.2.1 41 1 ((((List.range x.1).filter fun v => decide (v ∈ l)).map (fun x => (u, x))).foldl (facesStep G (2 * es.length + 1)) X).length x.2.2.1, starHP (kids rowD x.2.2.1 ((((List.range x.1).filter fun v => decide (v ∈ l)).map (fun x => (u, x))).foldl (facesStep G (2 * es.length + 1)) X)),
        rowHP x.2.2.2 43 2 ((((List.range x.1).filter fun v => decide (v ∈ l)).map (fun x => (u, x))).foldl (facesStep G (2 * es.length + 1)) X).flatten.length (dsV ((((List.range x.1).filter fun v => decide (v ∈ l)).map (fun x => (u, x))).foldl (facesStep G (2 * es.length + 1)) X).flatten), boxHP bg 24 [.int .i64 (N : Int), v]])
      (fun x => N - x.1) (0, vo, ho, vm) [0, 0, 0, 0] ⟨Nat.zero_le _, hol⟩ (by exact rfl) ⟨rfl, rfl, rfl, rfl, rfl, rfl, trivial⟩ ?_
    rintro ⟨k, vo2, ho2, vm2⟩ ⟨hk, hol2⟩
    dsimp only at hk hol2 ⊢
    have hF := hFk k hk
    have hF2 := hFk (k + 1)
    rw [hPs k, List.foldl_append] at hF2
    by_cases hkl : k < N
    · have hF2 := hF2 hkl
      have hOk : (((List.range (k + 1)).filter fun v => decide (v ∈ l)).map (fun x => (u, x))).foldl (facesStep G (2 * es.length + 1)) X = (if k ∈ l then [(u, k)] else []).foldl (facesStep G (2 * es.length + 1)) ((((List.range k).filter fun v => decide (v ∈ l)).map (fun x => (u, x))).foldl (facesStep G (2 * es.length + 1)) X) := by rw [hPs k, List.foldl_append]
      have hlen := hF.len
      generalize (((List.range k).filter fun v => decide (v ∈ l)).map (fun x => (u, x))).foldl (facesStep G (2 * es.length + 1)) X = out at *
      refine know_row (v := vm2) (by exact .tail _ (.tail _ (.head _))) fun hvm2 _ => ?_
      repeat' first
        | refine k_then ?_
        | refine c_seq ?_
        | refine c_region ?_
        | refine s_nil ?_
        | refine s_move (by exact rfl) (by exact rfl) ?_
        | refine s_fa (by exact rfl) (by exact rfl) ?_
        | refine s_ld_box (by exact rfl) (by exact rfl) (by exact .tail _ (.tail _ (.tail _ (.head _)))) (by exact rfl) ?_
        | refine s_lss (by exact rfl) (by exact rfl) (by exact rfl) ?_
        | refine c_block ?_
        | refine c_skip ?_
        | (refine c_cond_p (by exact rfl) (fun h => ?_) (fun h => ?_) <;> try (exfalso; omega))
      refine o_build (cs := [.int .i64 (u : Int), .int .i64 (k : Int)]) [(0, .int .i64 (u : Int), [.int .i64 (u : Int)]), (1, .int .i64 (k : Int), [.int .i64 (k : Int)])] (by exact rfl) (by exact rfl) (by simp [Value.cells]) (by exact rfl) ?_
      repeat' first
        | refine o_alloc (by exact rfl) (fun b => ?_)
      revert b; intro b9
      refine o_stk_box (i := 0) (us := [.int .i64 (u : Int), .int .i64 (k : Int)]) (by exact rfl) (by exact rfl) (by exact rfl) (by exact rfl) (by exact rfl) (by simp [Value.oneCell']) (by simp [Value.cells]) ?_
      repeat' first
        | refine k_then ?_
        | refine c_seq ?_
        | refine c_region ?_
        | refine s_nil ?_
        | refine s_move (by exact rfl) (by exact rfl) ?_
        | refine s_idx (by exact rfl) (by exact rfl) (by exact rfl) (by assumption) (by first | assumption | omega) ?_
        | refine s_ld_ro (by exact rfl) (by exact rfl) (by assumption) (by assumption) ?_
      refine s_call (by exact rfl) (by exact rfl) (fun w h => HasN_ok hx l k w hsx (ro_old h hrx)) ?_
      by_cases hkin : k ∈ l
      · rw [decide_eq_true hkin]
        rw [if_pos hkin, List.foldl_cons, List.foldl_nil] at hOk hF2
        repeat' first
          | refine s_move (by exact rfl) (by exact rfl) ?_
          | refine s_not (by exact rfl) (by exact rfl) ?_
          | refine w_move (by exact rfl) (by exact rfl) (by exact rfl) (by exact rfl) ?_
          | refine w_ldk_box (by exact rfl) (by exact rfl) (by exact rfl) (by exact rfl) (by exact .head _) (by exact rfl) (by exact rfl) ?_
          | refine g_on (by exact rfl) (by exact rfl) ?_
        refine s_call (by exact rfl) (by exact rfl) (fun w h => in_ok vm2 out.flatten (u, k) w hvm2 (ro_own h (by exact .tail _ (.tail _ (.tail _ (.head _)))))) ?_
        by_cases hmet : (u, k) ∈ out.flatten
        · rw [decide_eq_true hmet]
          rw [facesStep, if_pos hmet] at hOk
          repeat' first
            | refine k_then ?_
            | refine c_region ?_
            | refine s_nil ?_
            | refine s_move (by exact rfl) (by exact rfl) ?_
            | refine s_assign (by exact rfl) (by exact rfl) ?_
            | refine s_add (by exact rfl) (by exact rfl) (by exact rfl) (by omega) ?_
            | refine s_pick_f (by exact rfl) (by exact rfl) (by exact rfl) ?_
            | refine c_exit ?_
            | refine k_then_exit ?_
            | refine k_blk_eq ?_
            | refine c_cond_t (by exact rfl) ?_
          refine c_round (k + 1, vo2, ho2, vm2) [1, 1, 1, 1] (by dsimp only; rw [hOk]; rfl) ⟨rfl, rfl, rfl, rfl, rfl, rfl, trivial⟩ ⟨by dsimp only; omega, by dsimp only; rw [hOk]; exact hol2⟩ (by dsimp only; omega)
        · rw [decide_eq_false hmet]
          rw [facesStep, if_neg hmet] at hOk hF2
          have hstart := hF.start (hPm k hkl hkin) hmet
          repeat' first
            | refine k_then ?_
            | refine c_seq ?_
            | refine c_region ?_
            | refine s_nil ?_
            | refine s_assign (by exact rfl) (by exact rfl) ?_
            | refine s_pick_f (by exact rfl) (by exact rfl) (by exact rfl) ?_
            | refine s_ldk_box (by exact rfl) (by exact rfl) (by exact .head _) (by exact rfl) (by exact rfl) ?_
            | refine o_alloc (by exact rfl) (fun b => ?_)
            | refine c_skip ?_
            | refine c_cond_f (by exact rfl) ?_
          refine o_stk_box (i := 0) (us := [.int .i64 (u : Int), .int .i64 (k : Int)]) (by exact rfl) (by exact rfl) (by exact rfl) (by exact rfl) (by exact rfl) (by simp [Value.oneCell']) (by simp [Value.cells]) ?_
          repeat' first
            | refine k_then ?_
            | refine s_nil ?_
            | refine c_block ?_
          refine c_nil 43 2 ?_
          refine c_loop (fun x : List (Nat × Nat) × (Nat × Nat) × Value × Nat => InF G ds out (u, k) x.1 x.2.1 ∧ (x.1 = [] ∨ x.2.1 ≠ (u, k)))
            (fun x => [(1, vr), (2, .pointer (some ⟨bg, 0, none⟩)), (5, vo2), (6, vm2), (7, .int .i64 (u : Int)), (8, .int .i64 (k : Int)), (9, .pointer (some ⟨b9, 0, none⟩)), (10, x.2.2.1), (11, .pointer (some ⟨x.2.2.2, 0, none⟩))])
            (fun x => [rowHP x.2.2.1 43 2 x.1.length (dsV x.1), boxHP x.2.2.2 43 [.int .i64 (x.2.1.1 : Int), .int .i64 (x.2.1.2 : Int)], boxHP b9 43 [.int .i64 (u : Int), .int .i64 (k : Int)], rowHP vo2 41 1 out.length ho2, starHP (kids rowD ho2 out), rowHP vm2 43 2 out.flatten.length (dsV out.flatten), boxHP bg 24 [.int .i64 (N : Int), v]])
            (fun x => ds.length - x.1.length) ([], (u, k), .slice none 0 0, b) [0, 0, 0, 0, 0, 0, 0] ⟨hstart, .inl rfl⟩ (by exact rfl) ⟨rfl, rfl, rfl, rfl, rfl, rfl, rfl, rfl, rfl, trivial⟩ ?_
          rintro ⟨f, x, vf, bx⟩ ⟨hI, hne⟩
          dsimp only at hI hne ⊢
          have hxm := hI.mem
          obtain ⟨hxf, hI2⟩ := hI.more hi hm hF.cy hF.sub hne
          have hroom := hI.room hxf
          have hxin := hin x hxm
          have hgx := hin (G x) (hm x hxm)
          refine know_row (v := vf) (.head _) fun hvf _ => ?_
          repeat' first
            | refine k_then ?_
            | refine c_seq ?_
            | refine c_region ?_
            | refine s_nil ?_
            | refine s_move (by exact rfl) (by exact rfl) ?_
            | refine s_fa (by exact rfl) (by exact rfl) ?_
            | refine s_ld_box (by exact rfl) (by exact rfl) (by exact .tail _ (.tail _ (.tail _ (.tail _ (.tail _ (.tail _ (.head _))))))) (by exact rfl) ?_
            | refine s_leq (by exact rfl) (by exact rfl) (by exact rfl) ?_
            | refine s_mul (by exact rfl) (by exact rfl) (by exact rfl) (by omega) ?_
            | refine s_len (by exact rfl) (by exact rfl) (by assumption) ?_
            | refine s_ldk_box (by exact rfl) (by exact rfl) (by exact .tail _ (.head _)) (by exact rfl) (by exact rfl) ?_
            | refine c_block ?_
            | refine c_skip ?_
            | (refine c_cond_p (by exact rfl) (fun h => ?_) (fun h => ?_) <;> try (exfalso; omega))
          refine o_mk [.agg #[.int .i64 (x.1 : Int), .int .i64 (x.2 : Int)]] (by exact rfl) (by exact rfl) rfl ?_ ?_ (by simp) fun vt hvt => ?_
          · simp [Value.cells]
          · simp
          rw [show ([Value.agg #[.int .i64 (x.1 : Int), .int .i64 (x.2 : Int)]].flatMap fun u => u.cells.toList) = dsV [x] from rfl]
          skip
          refine o_append_row (i := 1) (by exact rfl) (by exact rfl) (by exact rfl) (by exact rfl) (by exact .head _) (by exact rfl) (by intro u hu; exact dsV_one _ u hu) ?_ fun vf2 hvf2 => ?_
          · show (f.length + 1) * 16 ≤ _
            omega
          repeat' first
            | refine k_then ?_
            | refine c_seq ?_
            | refine c_region ?_
            | refine s_nil ?_
            | refine s_move (by exact rfl) (by exact rfl) ?_
            | refine s_assign (by exact rfl) (by exact rfl) ?_
            | refine s_ldk_box (by exact rfl) (by exact rfl) (by exact .tail _ (.tail _ (.head _))) (by exact rfl) (by exact rfl) ?_
          refine s_call (by exact rfl) (by exact rfl) (fun w h => refNext_ok vr hr0 (intL R) x.1 x.2 w (rosI_old h hR.int)) ?_
          rw [hnx x hxm]
          repeat' first
            | refine s_move (by exact rfl) (by exact rfl) ?_
            | refine s_extract (by exact rfl) (by exact rfl) (by exact rfl) ?_
          refine o_stk_box (i := 2) (us := [.int .i64 ((G x).1 : Int), .int .i64 ((G x).2 : Int)]) (by exact rfl) (by exact rfl) (by exact rfl) (by exact rfl) (by exact rfl) (by simp [Value.oneCell']) (by simp [Value.cells, putL]) ?_
          repeat' first
            | refine k_then ?_
            | refine c_seq ?_
            | refine c_region ?_
            | refine s_nil ?_
            | refine s_ldk_box (by exact rfl) (by exact rfl) (by first | exact .tail _ (.tail _ (.head _)) | exact .tail _ (.tail _ (.tail _ (.head _)))) (by exact rfl) (by exact rfl) ?_
          refine s_eql2 (by exact rfl) (by exact rfl) (by exact rfl) ?_
          repeat' first
            | refine k_then ?_
            | refine c_seq ?_
            | refine c_region ?_
            | refine s_nil ?_
            | refine s_move (by exact rfl) (by exact rfl) ?_
            | refine s_ldk_box (by exact rfl) (by exact rfl) (by exact .tail _ (.tail _ (.head _))) (by exact rfl) (by exact rfl) ?_
            | refine o_alloc (by exact rfl) (fun b => ?_)
            | refine c_skip ?_
            | refine c_exit ?_
            | refine k_then_exit ?_
            | refine k_blk ?_
            | refine k_blk_eq ?_
            | refine k_blk_ne (by exact rfl) ?_
            | (refine c_cond_p (by exact rfl) (fun h => ?_) (fun h => ?_) <;> try (exfalso; omega))
          · have e : G x = (u, k) := Prod.ext (by dsimp only; omega) (by dsimp only; omega)
            rw [e] at hI2
            have htr : tr G (u, k) (2 * es.length + 1) (u, k) = f ++ [x] := hI2.tr (by simp) (by rw [List.length_append]; simp only [List.length_cons, List.length_nil]; omega)
            rw [htr] at hOk hF2
            have hF2l := hF2.len
            rw [List.flatten_append, List.length_append, List.length_append] at hF2l
            simp only [List.flatten_cons, List.flatten_nil, List.append_nil, List.length_append, List.length_cons, List.length_nil] at hF2l
            refine o_append_row (i := 6) (by exact rfl) (by exact rfl) (by exact rfl) (by exact rfl) (by exact .tail _ (.head _)) ?_ ?_ ?_ fun vm3 hvm3 => ?_
            · rw [List.length_append, dsV_length, dsV_length]; simp only [List.length_cons, List.length_nil]; omega
            · intro u hu
              rcases List.mem_append.1 hu with hu | hu
              · exact dsV_one _ u hu
              · exact dsV_one _ u hu
            · show (out.flatten.length + (f.length + 1)) * 16 ≤ _
              omega
            repeat' first
              | refine k_then ?_
              | refine c_region ?_
              | refine s_nil ?_
              | refine s_move (by exact rfl) (by exact rfl) ?_
              | refine s_assign (by exact rfl) (by exact rfl) ?_
            refine o_mk [vf2] (by exact rfl) (by exact rfl) rfl ?_ ?_ (by simp) fun vt2 hvt2 => ?_
            · intro u hu
              obtain rfl : u = vf2 := by simpa using hu
              rw [← Array.length_toList, one_cells hvf2.one]; rfl
            · simp
            rw [show ([vf2].flatMap fun u => u.cells.toList) = [vf2] from by simp [one_cells hvf2.one]]
            skip
            refine o_append_row (i := 5) (by exact rfl) (by exact rfl) (by exact rfl) (by exact rfl) (by exact .head _) (by exact rfl) (by simp [hvf2.one]) ?_ fun vo3 hvo3 => ?_
            · show (out.length + 1) * 24 ≤ _
              omega
            repeat' first
              | refine k_then ?_
              | refine c_region ?_
              | refine s_nil ?_
              | refine s_move (by exact rfl) (by exact rfl) ?_
              | refine s_assign (by exact rfl) (by exact rfl) ?_
              | refine s_add (by exact rfl) (by exact rfl) (by exact rfl) (by omega) ?_
              | refine k_blk ?_
            refine c_pick [2, 4, 4, 4, 4] (by exact rfl) ?_
            refine c_pushk 1 (by exact rfl) ?_
            refine c_round (k + 1, vo3, ho2 ++ [vf2], vm3) [0, 0, 0, 0] ?_ ⟨rfl, rfl, rfl, rfl, rfl, rfl, trivial⟩ ⟨by dsimp only; omega, by dsimp only; rw [hOk, List.length_append, List.length_append, hol2]; rfl⟩ (by dsimp only; omega)
            dsimp only
            rw [hOk, kids_append hol2, List.flatten_append, show [f ++ [x]].flatten = f ++ [x] by simp, dsV_append, dsV_append, List.length_append, List.length_append, List.length_append, show rowD vf2 (f ++ [x]) = rowHP vf2 43 2 (f.length + 1) (dsV f ++ dsV [x]) from by rw [rowD, dsV_append, List.length_append]; rfl]
            rfl
          · have e : G x ≠ (u, k) := fun e => h (by rw [e]; exact ⟨rfl, rfl⟩)
            refine o_stk_box (i := 0) (us := [.int .i64 ((G x).1 : Int), .int .i64 ((G x).2 : Int)]) (by exact rfl) (by exact rfl) (by exact rfl) (by exact rfl) (by exact rfl) (by simp [Value.oneCell']) (by simp [Value.cells, putL]) ?_
            repeat' first
              | refine k_then ?_
              | refine s_nil ?_
            refine c_round (f ++ [x], G x, vf2, b) [2, 0, 2, 2, 2, 2, 2] ?_ ⟨rfl, rfl, rfl, rfl, rfl, rfl, rfl, rfl, rfl, trivial⟩ ⟨hI2, .inr e⟩ (by dsimp only; rw [List.length_append]; simp only [List.length_cons, List.length_nil]; omega)
            dsimp only
            rw [dsV_append, List.length_append]
            rfl
      · rw [decide_eq_false hkin]
        rw [if_neg hkin, List.foldl_nil] at hOk
        repeat' first
          | refine k_then ?_
          | refine c_region ?_
          | refine s_nil ?_
          | refine s_move (by exact rfl) (by exact rfl) ?_
          | refine s_assign (by exact rfl) (by exact rfl) ?_
          | refine s_add (by exact rfl) (by exact rfl) (by exact rfl) (by omega) ?_
          | refine s_not (by exact rfl) (by exact rfl) ?_
          | refine s_pick_t (by exact rfl) (by exact rfl) (by exact rfl) ?_
          | refine c_exit ?_
          | refine k_then_exit ?_
          | refine k_blk_eq ?_
          | refine c_cond_t (by exact rfl) ?_
          | refine g_skip (by exact rfl) (by exact rfl) (by exact rfl) (by exact rfl) ?_
        refine c_round (k + 1, vo2, ho2, vm2) [1, 1, 1, 1] (by dsimp only; rw [hOk]; rfl) ⟨rfl, rfl, rfl, rfl, rfl, rfl, trivial⟩ ⟨by dsimp only; omega, by dsimp only; rw [hOk]; exact hol2⟩ (by dsimp only; omega)
    · repeat' first
        | refine k_then ?_
        | refine c_seq ?_
        | refine c_region ?_
        | refine s_nil ?_
        | refine s_move (by exact rfl) (by exact rfl) ?_
        | refine s_assign (by exact rfl) (by exact rfl) ?_
        | refine s_fa (by exact rfl) (by exact rfl) ?_
        | refine s_ld_box (by exact rfl) (by exact rfl) (by exact .tail _ (.tail _ (.tail _ (.head _)))) (by exact rfl) ?_
        | refine s_lss (by exact rfl) (by exact rfl) (by exact rfl) ?_
        | refine s_add (by exact rfl) (by exact rfl) (by exact rfl) (by omega) ?_
        | refine c_exit ?_
        | refine k_then_exit ?_
        | refine k_blk ?_
        | refine k_blk_eq ?_
        | (refine c_cond_p (by exact rfl) (fun h => ?_) (fun h => ?_) <;> try (exfalso; omega))
      obtain rfl : k = N := by omega
      refine c_round (u + 1, vo2, ho2, vm2) [0, 0, 0, 0] (by dsimp only; rw [hO1]; rfl) ⟨rfl, rfl, rfl, rfl, rfl, trivial⟩ ⟨by dsimp only; omega, by dsimp only; rw [hO1]; exact hol2⟩ (by dsimp only; omega)
  · repeat' first
      | refine k_then ?_
      | refine c_seq ?_
      | refine c_region ?_
      | refine s_nil ?_
      | refine s_move (by exact rfl) (by exact rfl) ?_
      | refine s_assign (by exact rfl) (by exact rfl) ?_
      | refine s_fa (by exact rfl) (by exact rfl) ?_
      | refine s_ld_box (by exact rfl) (by exact rfl) (by exact .tail _ (.tail _ (.tail _ (.head _)))) (by exact rfl) ?_
      | refine s_lss (by exact rfl) (by exact rfl) (by exact rfl) ?_
      | refine c_exit ?_
      | refine c_ret ?_
      | refine k_then_exit ?_
      | refine k_blk_eq ?_
      | (refine c_cond_p (by exact rfl) (fun h => ?_) (fun h => ?_) <;> try (exfalso; omega))
    obtain rfl : u = N := by omega
    refine ret1 [0, 0] rfl rfl rfl ⟨ho, hol, rfl⟩
/-- lists of darts that are read -/
structure ROd (w : World) (S : FS) (v : Value) (hs : List Value) (F : List (List (Nat × Nat))) : Prop where
  shp : Shp v F.length
  len : hs.length = F.length
  ro : RO w S v hs
  kid : ∀ (i : Nat) h l, hs[i]? = some h → F[i]? = some l → Shp h l.length ∧ RO w S h (dsV l)
theorem rod_own {w0 w : World} {S0 : FS} {L : List HP} {v : Value} {e : TypeId} {m : Nat} {hs : List Value} {F : List (List (Nat × Nat))} (h : St w0 S0 L w) (hL : rowHP v e 1 m hs ∈ L) (hm : m = F.length) (hK : starHP (kids rowD hs F) ∈ L) : ROd w No v hs F := by
  obtain ⟨S, hsat⟩ := h.mem hL
  have hl : hs.length = m := by have := hsat.1; omega
  refine ⟨hm ▸ rowHP_shp hsat, by omega, RO.of_rd (rowHP_rd hsat), fun i x l h1 h2 => ?_⟩
  have hk : rowHP x 43 2 l.length (dsV l) ∈ kids rowD hs F := kids_mem (f := rowD) h1 h2
  obtain ⟨S, hsat⟩ := h.kid hK hk
  exact ⟨rowHP_shp hsat, RO.of_rd (rowHP_rd hsat)⟩
theorem Same7_ok (a b : Value) (hx hy : List Value) (F : List (List (Nat × Nat))) (w : World) (ha : ROd w No a hx F) (hb : ROd w No b hy F) :
    Calls Try.prog 17 #[a, b] w (Post w No (Just (.bool true))) := by
  have hsa := ha.shp
  have hsb := hb.shp
  have hra := ha.ro
  have hrb := hb.ro
  have hla := ha.len
  have hlb := hb.len
  have hm : F.length ≤ maxLen := hsa.1
  simp only [maxLen] at hm
  refine enter0 (vs := [_, _]) Try.func17 rfl Try.ntmps17 rfl ?_
  repeat' first
    | refine k_then ?_
    | refine c_seq ?_
    | refine c_region ?_
    | refine s_nil ?_
    | refine s_move (by exact rfl) (by exact rfl) ?_
    | refine s_assign (by exact rfl) (by exact rfl) ?_
    | refine s_neq (by exact rfl) (by exact rfl) (by exact rfl) ?_
    | refine s_len (by exact rfl) (by exact rfl) (by assumption) ?_
    | refine c_block ?_
    | refine c_skip ?_
    | (refine c_cond_p (by exact rfl) (fun h => ?_) (fun h => ?_) <;> try (exfalso; omega))
  refine c_loop (fun k : Nat => k ≤ F.length) (fun k => [(0, a), (1, b), (5, .int .i64 (k : Int))]) (fun _ => []) (fun k => F.length - k) 0 [] (Nat.zero_le _) rfl ⟨rfl, rfl, rfl, trivial⟩ ?_
  rintro k hk
  by_cases hlt : k < F.length
  · obtain ⟨c, hc⟩ : ∃ c, F[k]? = some c := ⟨_, List.getElem?_eq_getElem hlt⟩
    obtain ⟨vc, hvc⟩ : ∃ c, hx[k]? = some c := ⟨_, List.getElem?_eq_getElem (by omega)⟩
    obtain ⟨vd, hvd⟩ : ∃ d, hy[k]? = some d := ⟨_, List.getElem?_eq_getElem (by omega)⟩
    obtain ⟨kc1, kc2⟩ := ha.kid k vc c hvc hc
    obtain ⟨kd1, kd2⟩ := hb.kid k vd c hvd hc
    have h1 : hx[k * 1]? = some vc := by simpa using hvc
    have h2 : hy[k * 1]? = some vd := by simpa using hvd
    have hcm := kc1.1
    simp only [maxLen] at hcm
    repeat' first
      | refine k_then ?_
      | refine c_seq ?_
      | refine c_region ?_
      | refine s_nil ?_
      | refine s_move (by exact rfl) (by exact rfl) ?_
      | refine s_lss (by exact rfl) (by exact rfl) (by exact rfl) ?_
      | refine s_len (by exact rfl) (by exact rfl) (by assumption) ?_
      | refine c_block ?_
      | refine c_skip ?_
      | (refine c_cond_p (by exact rfl) (fun h => ?_) (fun h => ?_) <;> try (exfalso; omega))
    refine p_begin0 [(0, true), (1, true), (2, true), (3, true), (4, true), (5, true), (6, true), (7, true), (8, true), (9, true), (10, true)] (by kernel_rfl) ?_
    repeat' first
      | refine p_nil ?_
      | (refine p_at (by exact rfl) ?_
         first
          | refine t_move (by exact rfl) (by exact rfl) (by exact fun _ h => h) ?_
          | refine t_neq (by exact rfl) (by exact rfl) (by exact rfl) (by exact fun _ h => h) ?_
          | refine t_len (by exact rfl) (by exact rfl) (by assumption) (by exact fun _ h => h) ?_
          | refine t_idx (by exact rfl) (by exact rfl) (by exact rfl) (by assumption) (by first | assumption | omega) (by exact fun _ h => h) ?_
          | refine t_ld_ro (by exact rfl) (by exact rfl) (by assumption) (by assumption) (by exact fun _ h => h) ?_)
    repeat' first
      | refine k_then ?_
      | refine c_seq ?_
      | refine c_region ?_
      | refine s_nil ?_
      | refine s_assign (by exact rfl) (by exact rfl) ?_
      | refine c_block ?_
      | refine c_skip ?_
      | (refine c_cond_p (by exact rfl) (fun h => ?_) (fun h => ?_) <;> try (exfalso; omega))
    refine c_loop (fun j : Nat => j ≤ c.length) (fun j => [(0, a), (1, b), (5, .int .i64 (k : Int)), (6, .int .i64 (j : Int))]) (fun _ => []) (fun j => c.length - j) 0 [] (Nat.zero_le _) rfl ⟨rfl, rfl, rfl, rfl, trivial⟩ ?_
    rintro j hj
    by_cases hjl : j < c.length
    · obtain ⟨z, hz⟩ : ∃ z, c[j]? = some z := ⟨_, List.getElem?_eq_getElem hjl⟩
      have hE := dsV_at hz
      repeat' first
        | refine k_then ?_
        | refine c_seq ?_
        | refine c_region ?_
        | refine s_nil ?_
        | refine s_move (by exact rfl) (by exact rfl) ?_
        | refine s_lss (by exact rfl) (by exact rfl) (by exact rfl) ?_
        | refine s_len (by exact rfl) (by exact rfl) (by assumption) ?_
        | refine s_idx (by exact rfl) (by exact rfl) (by exact rfl) (by assumption) (by first | assumption | omega) ?_
        | refine s_ld_ro (by exact rfl) (by exact rfl) (by assumption) (by assumption) ?_
        | refine c_block ?_
        | refine c_skip ?_
        | (refine c_cond_p (by exact rfl) (fun h => ?_) (fun h => ?_) <;> try (exfalso; omega))
      refine p_begin0 [(0, true), (1, true), (2, true), (3, true), (4, true), (5, true), (6, true), (7, true), (8, true), (9, true), (10, true), (11, true), (12, true), (13, true), (14, true)] (by kernel_rfl) ?_
      repeat' first
        | (refine p_at (by exact rfl) ?_
           first
            | refine t_move (by exact rfl) (by exact rfl) (by exact fun _ h => h) ?_
            | refine t_idx (by exact rfl) (by exact rfl) (by exact rfl) (by assumption) (by first | assumption | omega) (by exact fun _ h => h) ?_
            | refine t_ld_ro (by exact rfl) (by exact rfl) (by assumption) (by assumption) (by exact fun _ h => h) ?_
            | refine t_ldk_ro (by exact rfl) (by exact rfl) (by assumption) (by decide) (by assumption) (by exact rfl) (by exact fun _ h => h) ?_)
      refine p_at (by exact rfl) ?_
      refine t_neq2 (by exact rfl) (by exact rfl) (by exact rfl) (by exact fun _ h => h) ?_
      rw [show (!decide ((z.1 : Int) = z.1 ∧ (z.2 : Int) = z.2)) = false by simp]
      repeat' first
        | refine p_nil ?_
      repeat' first
        | refine k_then ?_
        | refine c_region ?_
        | refine s_nil ?_
        | refine s_move (by exact rfl) (by exact rfl) ?_
        | refine s_assign (by exact rfl) (by exact rfl) ?_
        | refine s_add (by exact rfl) (by exact rfl) (by exact rfl) (by omega) ?_
        | refine c_skip ?_
        | refine k_blk ?_
        | refine c_cond_f (by exact rfl) ?_
      refine c_round (j + 1) [] (by exact rfl) ⟨rfl, rfl, rfl, rfl, trivial⟩ (by omega) (by omega)
    · repeat' first
        | refine k_then ?_
        | refine c_seq ?_
        | refine c_region ?_
        | refine s_nil ?_
        | refine s_move (by exact rfl) (by exact rfl) ?_
        | refine s_assign (by exact rfl) (by exact rfl) ?_
        | refine s_lss (by exact rfl) (by exact rfl) (by exact rfl) ?_
        | refine s_add (by exact rfl) (by exact rfl) (by exact rfl) (by omega) ?_
        | refine s_len (by exact rfl) (by exact rfl) (by assumption) ?_
        | refine s_idx (by exact rfl) (by exact rfl) (by exact rfl) (by assumption) (by first | assumption | omega) ?_
        | refine s_ld_ro (by exact rfl) (by exact rfl) (by assumption) (by assumption) ?_
        | refine c_exit ?_
        | refine k_then_exit ?_
        | refine k_blk ?_
        | refine k_blk_eq ?_
        | (refine c_cond_p (by exact rfl) (fun h => ?_) (fun h => ?_) <;> try (exfalso; omega))
      refine c_round (k + 1) [] (by exact rfl) ⟨rfl, rfl, rfl, trivial⟩ (by omega) (by omega)
  · repeat' first
      | refine k_then ?_
      | refine c_seq ?_
      | refine c_region ?_
      | refine s_nil ?_
      | refine s_move (by exact rfl) (by exact rfl) ?_
      | refine s_assign (by exact rfl) (by exact rfl) ?_
      | refine s_lss (by exact rfl) (by exact rfl) (by exact rfl) ?_
      | refine s_len (by exact rfl) (by exact rfl) (by assumption) ?_
      | refine c_exit ?_
      | refine c_ret ?_
      | refine k_then_exit ?_
      | refine k_blk_eq ?_
      | (refine c_cond_p (by exact rfl) (fun h => ?_) (fun h => ?_) <;> try (exfalso; omega))
    refine ret1 [] rfl rfl rfl ⟨rfl, rfl⟩
end Go.Proofs.Ytpajjnkmaebhcaa
end
section
set_option linter.unusedVariables false
namespace Go.Proofs.Ytpajjnkmaebhcaa
open Go Go.RowKit Go.Sl Fil
set_option maxRecDepth 100000
set_option maxHeartbeats 8000000
set_option linter.unusedVariables false
set_option linter.unusedSimpArgs false
attribute [local irreducible] Code.wp wpList bodyPost wpQuiet Exit.then Exit.inBlock Post wpAnyH wpOp
theorem RotationFaces_ok (n : Int) (v : Value) (es : List E) (vr : Value) (hr0 : List Value) (ls : List (List Int)) (w : World) (hs : Shp v es.length) (hr : RO w No v (esV es)) (hR : ROsI w No vr hr0 ls) (hlen : ∀ l ∈ ls, l.length ≤ 17592186044416) :
    Calls Try.prog 3 #[.agg #[.int .i64 n, v], vr] w (Post w No (Just (.bool true))) := by
  refine enter0 (vs := [_, _]) Try.func3 rfl Try.ntmps3 rfl ?_
  repeat' first
    | refine k_then ?_
    | refine c_seq ?_
    | refine c_region ?_
    | refine s_nil ?_
    | refine s_move (by exact rfl) (by exact rfl) ?_
    | refine s_assign (by exact rfl) (by exact rfl) ?_
    | refine s_ldk_box (by exact rfl) (by exact rfl) (by exact .head _) (by exact rfl) (by exact rfl) ?_
    | refine o_box (by exact rfl) (by exact rfl) (fun b => ?_)
    | fail
  refine s_call (by exact rfl) (by exact rfl) (fun w h => Light7_ok n v es.length vr hr0 ls 25 w hs (rosI_old h hR) hlen (by omega)) ?_
  cases hl : light7 n es.length ls 25
  · repeat' first
      | refine k_then ?_
      | refine c_seq ?_
      | refine c_region ?_
      | refine s_nil ?_
      | refine s_not (by exact rfl) (by exact rfl) ?_
      | refine c_cond_t (by exact rfl) ?_
      | fail
    refine s_call (vs := []) (by exact rfl) (by exact rfl) (fun w h => alive07_ok w) ?_
    repeat' first
      | refine k_then ?_
      | refine s_nil ?_
      | refine s_assign (by exact rfl) (by exact rfl) ?_
      | refine c_ret ?_
      | refine k_then_ret ?_
      | fail
    refine ret1 [] rfl rfl (by exact rfl) ⟨rfl, rfl⟩
  obtain ⟨l1, l2, l3, l4⟩ := light7_t hl
  have hle : ∀ l ∈ ls, l.length ≤ 1048576 := fun l hl => by have := l4 l hl; omega
  repeat' first
    | refine k_then ?_
    | refine c_seq ?_
    | refine c_region ?_
    | refine s_nil ?_
    | refine s_move (by exact rfl) (by exact rfl) ?_
    | refine s_not (by exact rfl) (by exact rfl) ?_
    | refine s_ldk_box (by exact rfl) (by exact rfl) (by exact .head _) (by exact rfl) (by exact rfl) ?_
    | refine c_skip ?_
    | refine c_cond_f (by exact rfl) ?_
    | fail
  by_cases hk : rotK n es ls = 0
  · obtain ⟨hG, R, rfl, hRot⟩ := rot_sys hk
    have hRs := hR.nat
    refine o_call (by exact rfl) (by exact rfl) (fun w h => rotFaces_ok n v es vr hr0 R w hs (ro_old h hr) hG (ros_old h hRs) hRot) ?_
    rintro _ _ ⟨vf, hf, rfl, hfl, rfl⟩
    refine know_row (v := vf) (by exact .head _) fun hvf _ => ?_
    repeat' first
      | refine k_then ?_
      | refine c_seq ?_
      | refine c_region ?_
      | refine s_nil ?_
      | refine s_move (by exact rfl) (by exact rfl) ?_
      | refine s_assign (by exact rfl) (by exact rfl) ?_
      | refine s_extract (by exact rfl) (by exact rfl) (by exact rfl) ?_
      | refine s_ldk_box (by exact rfl) (by exact rfl) (by exact .tail _ (.tail _ (.head _))) (by exact rfl) (by exact rfl) ?_
      | fail
    refine s_call (by exact rfl) (by exact rfl) (fun w h => refRotRight_ok n v es vr hr0 _ w hs (ro_old h hr) (by omega) (rosI_old h hR)) ?_
    rw [hk]
    repeat' first
      | refine k_then ?_
      | refine c_seq ?_
      | refine c_region ?_
      | refine s_nil ?_
      | refine s_move (by exact rfl) (by exact rfl) ?_
      | refine s_assign (by exact rfl) (by exact rfl) ?_
      | refine s_eql (by exact rfl) (by exact rfl) (by exact rfl) ?_
      | refine s_neq (by exact rfl) (by exact rfl) (by exact rfl) ?_
      | refine c_skip ?_
      | (refine c_cond_p (by exact rfl) (fun h => ?_) (fun h => ?_) <;> try (exfalso; omega))
      | (refine g_case (by exact rfl) (by exact rfl) (fun h => ?_) (fun h => ?_) <;> try (exfalso; omega))
      | refine w_move (by exact rfl) (by exact rfl) (by exact rfl) (by exact rfl) ?_
      | refine w_ldk_box (by exact rfl) (by exact rfl) (by exact rfl) (by exact rfl) (by exact .tail _ (.tail _ (.head _))) (by exact rfl) (by exact rfl) ?_
      | refine g_on (by exact rfl) (by exact rfl) ?_
      | fail
    refine o_call (by exact rfl) (by exact rfl) (fun w h => refFaces_ok n v es vr hr0 R w hs (ro_old h hr) hG (ros_old h hRs) hRot) ?_
    rintro vg _ ⟨hg, hgl, rfl⟩
    repeat' first
      | refine g_on (by exact rfl) (by exact rfl) ?_
      | fail
    refine s_call (by exact rfl) (by exact rfl) (fun w h => Same7_ok vf vg hf hg (facesR n.toNat (tn es) R) w (rod_own h (.tail _ (.tail _ (.head _))) rfl (.tail _ (.tail _ (.tail _ (.head _))))) (rod_own h (.head _) rfl (.tail _ (.head _)))) ?_
    repeat' first
      | refine s_move (by exact rfl) (by exact rfl) ?_
      | refine s_pick_t (by exact rfl) (by exact rfl) (by exact rfl) ?_
      | refine g_on (by exact rfl) (by exact rfl) ?_
      | fail
    refine s_call (vs := []) (by exact rfl) (by exact rfl) (fun w h => alive07_ok w) ?_
    repeat' first
      | refine k_then ?_
      | refine s_nil ?_
      | refine s_assign (by exact rfl) (by exact rfl) ?_
      | refine s_pick_t (by exact rfl) (by exact rfl) (by exact rfl) ?_
      | refine c_ret ?_
      | fail
    refine ret1 [] rfl rfl (by exact rfl) ⟨rfl, rfl⟩
  · have hnone : Shp (.slice none 0 0) 0 := ⟨by simp [maxLen], .inl ⟨rfl, rfl⟩⟩
    refine s_call (by exact rfl) (by exact rfl) (fun w h => rotFaces_no n v es vr hr0 ls w hs (ro_old h hr) (by omega) (rosI_old h hR) hle hk) ?_
    repeat' first
      | refine k_then ?_
      | refine c_seq ?_
      | refine c_region ?_
      | refine s_nil ?_
      | refine s_move (by exact rfl) (by exact rfl) ?_
      | refine s_assign (by exact rfl) (by exact rfl) ?_
      | refine s_extract (by exact rfl) (by exact rfl) (by exact rfl) ?_
      | refine s_ldk_box (by exact rfl) (by exact rfl) (by exact .head _) (by exact rfl) (by exact rfl) ?_
      | fail
    refine s_call (by exact rfl) (by exact rfl) (fun w h => refRotRight_ok n v es vr hr0 ls w hs (ro_old h hr) (by omega) (rosI_old h hR)) ?_
    repeat' first
      | refine k_then ?_
      | refine c_seq ?_
      | refine c_region ?_
      | refine s_nil ?_
      | refine s_move (by exact rfl) (by exact rfl) ?_
      | refine s_assign (by exact rfl) (by exact rfl) ?_
      | refine s_eql (by exact rfl) (by exact rfl) (by exact rfl) ?_
      | refine s_neq (by exact rfl) (by exact rfl) (by exact rfl) ?_
      | refine s_pick_t (by exact rfl) (by exact rfl) (by exact rfl) ?_
      | (refine c_cond_p (by exact rfl) (fun h => ?_) (fun h => ?_) <;> try (exfalso; omega))
      | (refine g_case (by exact rfl) (by exact rfl) (fun h => ?_) (fun h => ?_) <;> try (exfalso; omega))
      | refine w_move (by exact rfl) (by exact rfl) (by exact rfl) (by exact rfl) ?_
      | refine w_eql (by exact rfl) (by exact rfl) (by exact rfl) (by exact rfl) (by exact rfl) ?_
      | refine w_len (by exact rfl) (by exact rfl) (by exact rfl) (by exact rfl) (by assumption) ?_
      | refine g_on (by exact rfl) (by exact rfl) ?_
      | fail
    refine s_call (vs := []) (by exact rfl) (by exact rfl) (fun w h => alive07_ok w) ?_
    repeat' first
      | refine k_then ?_
      | refine s_nil ?_
      | refine s_assign (by exact rfl) (by exact rfl) ?_
      | refine s_pick_t (by exact rfl) (by exact rfl) (by exact rfl) ?_
      | refine c_ret ?_
      | refine k_then_ret ?_
      | fail
    refine ret1 [] rfl rfl (by exact rfl) ⟨rfl, rfl⟩
end Go.Proofs.Ytpajjnkmaebhcaa
end
section
set_option linter.unusedVariables false
namespace Go.Proofs.Ytpajjnkmaebhcaa
open Go Go.RowKit Go.Sl Fil
set_option maxRecDepth 100000
set_option maxHeartbeats 8000000
set_option linter.unusedVariables false
set_option linter.unusedSimpArgs false
attribute [local irreducible] Code.wp wpList bodyPost wpQuiet Exit.then Exit.inBlock Post wpAnyH wpOp
theorem HasI_ok (v : Value) (l : List Nat) (i : Int) (w : World) (hi : i = (i.toNat : Int)) (hs : Shp v l.length) (hr : RO w No v (nV l)) :
    Calls Try.prog 25 #[v, .int .i64 i] w (Post w No (Just (.bool (decide (i.toNat ∈ l))))) := by
  have h := HasN_ok v l i.toNat w hs hr
  rwa [← hi] at h
theorem refEuler_ok (n : Int) (v : Value) (es : List E) (vr : Value) (hr0 : List Value) (R : List (List Nat)) (o lab : Nat → Nat) (w : World) (hs : Shp v es.length) (hr : RO w No v (esV es)) (hG : RightG n es) (hR : ROs w No vr hr0 R) (hRot : RotL n.toNat (tn es) R) (hL : Lev n.toNat (nb (tn es)) o lab) :
    Calls Try.prog 22 #[.agg #[.int .i64 n, v], vr] w (Post w No fun r L' => L' = [rowHP r 3 1 (eulerL n.toNat (tn es) lab (facesR n.toNat (tn es) R)).length (iV (eulerL n.toNat (tn es) lab (facesR n.toNat (tn es) R)))]) := by
  have hsr := hR.shp
  have hrr := hR.ro
  have hlo := hG.lo
  have hhi := hG.hi
  have hmany := hG.many
  refine enter0 (vs := [_, _]) Try.func22 rfl Try.ntmps22 rfl ?_
  repeat' first
    | refine k_then ?_
    | refine c_seq ?_
    | refine c_region ?_
    | refine s_nil ?_
    | refine s_assign (by exact rfl) (by exact rfl) ?_
    | refine s_ldk_box (by exact rfl) (by exact rfl) (by exact .head _) (by exact rfl) (by exact rfl) ?_
    | refine o_box (by exact rfl) (by exact rfl) (fun b => ?_)
  revert b; intro bg
  refine o_call (by exact rfl) (by exact rfl) (fun w h => refComps_ok n v es o lab w hs (ro_old h hr) hG hL) ?_
  rintro vc _ ⟨hc, hcl, rfl⟩
  refine know_row (v := vc) (.head _) fun hvc _ => ?_
  repeat' first
    | refine k_then ?_
    | refine c_seq ?_
    | refine c_region ?_
    | refine s_nil ?_
    | refine s_move (by exact rfl) (by exact rfl) ?_
    | refine s_assign (by exact rfl) (by exact rfl) ?_
    | refine s_ldk_box (by exact rfl) (by exact rfl) (by exact .tail _ (.tail _ (.head _))) (by exact rfl) (by exact rfl) ?_
  refine o_call (by exact rfl) (by exact rfl) (fun w h => refFaces_ok n v es vr hr0 R w hs (ro_old h hr) hG (ros_old h hR) hRot) ?_
  rintro vf _ ⟨hf, hfl, rfl⟩
  refine know_row (v := vf) (.head _) fun hvf _ => ?_
  have hcN : (compsS n.toNat lab).length ≤ n.toNat := compsI_length _ _ lab
  have hdec := facesR_dec hG hRot
  have hFne : ∀ f ∈ facesR n.toNat (tn es) R, ∃ d t, f = d :: t ∧ d.1 < n.toNat := fun f hf => by
    cases f with
    | nil => exact absurd rfl (hdec.cy _ hf).1
    | cons d t => exact ⟨d, t, rfl, (dart_lt hG (hdec.perm.mem_iff.1 (List.mem_flatten.2 ⟨_, hf, .head _⟩))).1⟩
  have hFl : (facesR n.toNat (tn es) R).length ≤ 2 * es.length := by
    have h1 := flat_le (C := facesR n.toNat (tn es) R) fun f hf => (hdec.cy f hf).1
    have h2 := hdec.perm.length_eq
    rw [dartsAll_length hG] at h2
    omega
  have hcl2 : ∀ c ∈ compsS n.toNat lab, c.length ≤ n.toNat := fun c hc => by
    obtain ⟨r, h1, h2, rfl⟩ := comp_mem hc
    have := List.length_filter_le (fun u => lab u == r) (List.range n.toNat); simpa using this
  have hK : ∀ c ∈ compsS n.toNat lab, eulerK (tn es) (facesR n.toNat (tn es) R) c = (c.length : Int) - (((tn es).filter fun e => decide (e.1 ∈ c)).length : Int) + (((facesR n.toNat (tn es) R).filter fun f => decide ((f.headD (0, 0)).1 ∈ c)).length : Int) + if ((tn es).filter fun e => decide (e.1 ∈ c)).length = 0 then 1 else 0 := fun c hc => by
    rw [eulerK]
    by_cases h1 : c.length = 1
    · rw [if_pos h1, (single hG hRot hL hc h1).2, h1]
      simp; omega
    · rw [if_neg h1, if_neg fun h => edge_of hG hRot hL hc h1 (List.eq_nil_of_length_eq_zero h)]
      omega
  have hfe : ∀ (c : List Nat) (k : Nat), ((((tn es).take k).filter fun e => decide (e.1 ∈ c)).length) ≤ k := fun c k => by
    have := List.length_filter_le (fun e : Nat × Nat => decide (e.1 ∈ c)) ((tn es).take k)
    rw [List.length_take] at this; omega
  have hff : ∀ (c : List Nat) (k : Nat), ((((facesR n.toNat (tn es) R).take k).filter fun f => decide ((f.headD (0, 0)).1 ∈ c)).length) ≤ k := fun c k => by
    have := List.length_filter_le (fun f : List (Nat × Nat) => decide ((f.headD (0, 0)).1 ∈ c)) ((facesR n.toNat (tn es) R).take k)
    rw [List.length_take] at this; omega
  unfold eulerL
  generalize facesR n.toNat (tn es) R = Fs at *
  generalize compsS n.toNat lab = cs at *
  rw [List.length_map]
  refine c_nil 3 1 ?_
  repeat' first
    | refine k_then ?_
    | refine c_seq ?_
    | refine c_region ?_
    | refine s_nil ?_
    | refine s_assign (by exact rfl) (by exact rfl) ?_
    | refine c_block ?_
  refine c_loop (fun x : Nat × Value => x.1 ≤ cs.length) (fun x => [(1, vr), (2, .pointer (some ⟨bg, 0, none⟩)), (5, vc), (6, vf), (7, x.2), (8, .int .i64 (x.1 : Int))])
    (fun x => [rowHP x.2 3 1 x.1 (iV ((cs.take x.1).map (eulerK (tn es) Fs))), rowHP vf 41 1 Fs.length hf, starHP (kids rowD hf Fs), rowHP vc 36 1 cs.length hc, starHP (kids rowN hc cs), boxHP bg 24 [.int .i64 n, v]])
    (fun x => cs.length - x.1) (0, .slice none 0 0) [0, 0, 0, 0, 0, 0] (Nat.zero_le _) (by exact rfl) ⟨rfl, rfl, rfl, rfl, rfl, rfl, trivial⟩ ?_
  rintro ⟨i, vo⟩ hi
  dsimp only at hi ⊢
  by_cases hil : i < cs.length
  · obtain ⟨c, hci⟩ : ∃ c, cs[i]? = some c := ⟨_, List.getElem?_eq_getElem hil⟩
    obtain ⟨hd, hhd⟩ : ∃ hd, hc[i]? = some hd := ⟨_, List.getElem?_eq_getElem (by omega)⟩
    have hhd1 : hc[i * 1]? = some hd := by rw [Nat.mul_one]; exact hhd
    have hcm := List.mem_of_getElem? hci
    have hcl3 := hcl2 c hcm
    have hKc := hK c hcm
    have hfec := hfe c
    have hffc := hff c
    have hkd : rowHP hd 3 1 c.length (nV c) ∈ kids rowN hc cs := kids_mem (f := rowN) hhd hci
    repeat' first
      | refine k_then ?_
      | refine c_seq ?_
      | refine c_region ?_
      | refine s_nil ?_
      | refine s_move (by exact rfl) (by exact rfl) ?_
      | refine s_lss (by exact rfl) (by exact rfl) (by exact rfl) ?_
      | refine s_len (by exact rfl) (by exact rfl) (by assumption) ?_
      | refine s_idx (by exact rfl) (by exact rfl) (by exact rfl) (by assumption) (by first | assumption | omega) ?_
      | refine s_ld_row (by exact rfl) (by exact rfl) (by exact .tail _ (.tail _ (.tail _ (.head _)))) (by assumption) ?_
      | refine c_block ?_
      | refine c_skip ?_
      | (refine c_cond_p (by exact rfl) (fun h => ?_) (fun h => ?_) <;> try (exfalso; omega))
    refine know_kid (by exact .tail _ (.tail _ (.tail _ (.tail _ (.head _))))) hkd fun hsd _ => ?_
    repeat' first
      | refine k_then ?_
      | refine c_seq ?_
      | refine c_region ?_
      | refine s_nil ?_
      | refine s_assign (by exact rfl) (by exact rfl) ?_
      | refine s_len (by exact rfl) (by exact rfl) (by assumption) ?_
      | refine c_block ?_
    refine c_loop (fun k : Nat => k ≤ es.length) (fun k => [(1, vr), (2, .pointer (some ⟨bg, 0, none⟩)), (5, vc), (6, vf), (7, vo), (8, .int .i64 (i : Int)), (9, .int .i64 (c.length : Int)), (10, .int .i64 (((((tn es).take k).filter fun e => decide (e.1 ∈ c)).length : Nat) : Int)), (11, .int .i64 (k : Int))])
      (fun k => [rowHP vo 3 1 i (iV ((cs.take i).map (eulerK (tn es) Fs))), rowHP vf 41 1 Fs.length hf, starHP (kids rowD hf Fs), rowHP vc 36 1 cs.length hc, starHP (kids rowN hc cs), boxHP bg 24 [.int .i64 n, v]])
      (fun k => es.length - k) 0 [0, 0, 0, 0, 0, 0] (Nat.zero_le _) (by exact rfl) ⟨rfl, rfl, rfl, rfl, rfl, rfl, rfl, rfl, rfl, trivial⟩ ?_
    rintro k hk
    have hfk := hfec k
    by_cases hkl : k < es.length
    · obtain ⟨e, he⟩ : ∃ e, es[k]? = some e := ⟨_, List.getElem?_eq_getElem hkl⟩
      obtain ⟨o1, o2, o3, o4, _⟩ := hG.ok e (List.mem_of_getElem? he)
      have het : (tn es)[k]? = some (e.1.toNat, e.2.1.toNat) := by rw [tn, List.getElem?_map, he]; rfl
      have hcnt := fcount (fun e : Nat × Nat => decide (e.1 ∈ c)) het
      have hE0 : (esV es)[k * 3 + 0]? = some (.int .i64 e.1) := (esV_get he).1
      repeat' first
        | refine k_then ?_
        | refine c_seq ?_
        | refine c_region ?_
        | refine s_nil ?_
        | refine s_move (by exact rfl) (by exact rfl) ?_
        | refine s_fa (by exact rfl) (by exact rfl) ?_
        | refine s_ld_box (by exact rfl) (by exact rfl) (by exact .tail _ (.tail _ (.tail _ (.tail _ (.tail _ (.head _)))))) (by exact rfl) ?_
        | refine s_lss (by exact rfl) (by exact rfl) (by exact rfl) ?_
        | refine s_len (by exact rfl) (by exact rfl) (by assumption) ?_
        | refine c_block ?_
        | refine c_skip ?_
        | (refine c_cond_p (by exact rfl) (fun h => ?_) (fun h => ?_) <;> try (exfalso; omega))
      refine p_begin0 [(0, true), (1, true), (2, true), (3, true), (4, true), (5, true), (6, true), (7, true), (8, true), (9, true), (10, false)] (by kernel_rfl) ?_
      repeat' first
        | (refine p_at (by exact rfl) ?_
           first
            | refine t_move (by exact rfl) (by exact rfl) (by exact fun _ h => h) ?_
            | refine t_fa (by exact rfl) (by exact rfl) (by exact fun _ h => h) ?_
            | refine t_ld_box (by exact rfl) (by exact rfl) (by exact .tail _ (.tail _ (.tail _ (.tail _ (.tail _ (.head _)))))) (by exact rfl) (by exact fun _ h => h) ?_
            | refine t_idx (by exact rfl) (by exact rfl) (by exact rfl) (by assumption) (by first | assumption | omega) (by exact fun _ h => h) ?_
            | refine t_fap (by exact rfl) (by exact rfl) (by assumption) (by omega) (by exact fun _ h => h) ?_
            | refine t_ld_ro (by exact rfl) (by exact rfl) (by assumption) (by assumption) (by exact fun _ h => h) ?_
            | refine t_ld_row (by exact rfl) (by exact rfl) (by exact .tail _ (.tail _ (.tail _ (.head _)))) (by assumption) (by exact fun _ h => h) ?_)
      refine p_call (gd := none) (by exact rfl) rfl (by exact rfl) (fun w h => HasI_ok hd c e.1 w (by omega) hsd (ro_kid h (by exact .tail _ (.tail _ (.tail _ (.tail _ (.head _))))) hkd)) (by exact fun _ h => h) ?_
      by_cases hin : e.1.toNat ∈ c
      · rw [decide_eq_true hin]
        rw [if_pos (decide_eq_true hin)] at hcnt
        have hc1 : (((((tn es).take (k + 1)).filter fun e => decide (e.1 ∈ c)).length : Nat) : Int) = (((((tn es).take k).filter fun e => decide (e.1 ∈ c)).length : Nat) : Int) + 1 := by rw [hcnt]; rfl
        repeat' first
          | refine p_nil ?_
        repeat' first
          | refine k_then ?_
          | refine c_region ?_
          | refine s_nil ?_
          | refine s_move (by exact rfl) (by exact rfl) ?_
          | refine s_assign (by exact rfl) (by exact rfl) ?_
          | refine s_add (by exact rfl) (by exact rfl) (by exact rfl) (by omega) ?_
          | refine k_blk ?_
          | refine c_cond_t (by exact rfl) ?_
        refine c_round (k + 1) [0, 0, 0, 0, 0, 0] (by exact rfl) (by rw [hc1]; exact ⟨rfl, rfl, rfl, rfl, rfl, rfl, rfl, rfl, rfl, trivial⟩) (by omega) (by omega)
      · rw [decide_eq_false hin]
        rw [if_neg (by simpa using hin)] at hcnt
        have hc1 : ((((tn es).take (k + 1)).filter fun e => decide (e.1 ∈ c)).length) = ((((tn es).take k).filter fun e => decide (e.1 ∈ c)).length) := hcnt
        repeat' first
          | refine p_nil ?_
        repeat' first
          | refine k_then ?_
          | refine c_region ?_
          | refine s_nil ?_
          | refine s_move (by exact rfl) (by exact rfl) ?_
          | refine s_assign (by exact rfl) (by exact rfl) ?_
          | refine s_add (by exact rfl) (by exact rfl) (by exact rfl) (by omega) ?_
          | refine c_skip ?_
          | refine k_blk ?_
          | refine c_cond_f (by exact rfl) ?_
        refine c_round (k + 1) [0, 0, 0, 0, 0, 0] (by exact rfl) (by rw [hc1]; exact ⟨rfl, rfl, rfl, rfl, rfl, rfl, rfl, rfl, rfl, trivial⟩) (by omega) (by omega)
    · have hkk : k = (tn es).length := by rw [tn_len]; omega
      rw [hkk, List.take_length] at hfk ⊢
      generalize hce : ((tn es).filter fun e => decide (e.1 ∈ c)).length = ce at *
      rw [tn_len] at hfk
      repeat' first
        | refine k_then ?_
        | refine c_seq ?_
        | refine c_region ?_
        | refine s_nil ?_
        | refine s_move (by exact rfl) (by exact rfl) ?_
        | refine s_assign (by exact rfl) (by exact rfl) ?_
        | refine s_fa (by exact rfl) (by exact rfl) ?_
        | refine s_ld_box (by exact rfl) (by exact rfl) (by exact .tail _ (.tail _ (.tail _ (.tail _ (.tail _ (.head _)))))) (by exact rfl) ?_
        | refine s_lss (by exact rfl) (by exact rfl) (by exact rfl) ?_
        | refine s_sub (by exact rfl) (by exact rfl) (by exact rfl) (by omega) ?_
        | refine s_len (by exact rfl) (by exact rfl) (by assumption) ?_
        | refine c_block ?_
        | refine c_exit ?_
        | refine k_then_exit ?_
        | refine k_blk_eq ?_
        | (refine c_cond_p (by exact rfl) (fun h => ?_) (fun h => ?_) <;> try (exfalso; omega))
      refine c_loop (fun j : Nat => j ≤ Fs.length) (fun j => [(1, vr), (2, .pointer (some ⟨bg, 0, none⟩)), (5, vc), (6, vf), (7, vo), (8, .int .i64 (i : Int)), (9, .int .i64 ((c.length : Int) - (ce : Int) + ((((Fs.take j).filter fun f => decide ((f.headD (0, 0)).1 ∈ c)).length : Nat) : Int))), (10, .int .i64 (ce : Int)), (12, .int .i64 (j : Int))])
        (fun j => [rowHP vo 3 1 i (iV ((cs.take i).map (eulerK (tn es) Fs))), rowHP vf 41 1 Fs.length hf, starHP (kids rowD hf Fs), rowHP vc 36 1 cs.length hc, starHP (kids rowN hc cs), boxHP bg 24 [.int .i64 n, v]])
        (fun j => Fs.length - j) 0 [0, 0, 0, 0, 0, 0] (Nat.zero_le _) (by exact rfl) (by simp only [List.take_zero, List.filter_nil, List.length_nil, Int.natCast_zero, Int.add_zero]; exact ⟨rfl, rfl, rfl, rfl, rfl, rfl, rfl, rfl, rfl, trivial⟩) ?_
      rintro j hj
      have hfj := hffc j
      by_cases hjl : j < Fs.length
      · obtain ⟨f, hf1⟩ : ∃ f, Fs[j]? = some f := ⟨_, List.getElem?_eq_getElem hjl⟩
        obtain ⟨hd2, hhd2⟩ : ∃ hd, hf[j]? = some hd := ⟨_, List.getElem?_eq_getElem (by omega)⟩
        have hhd3 : hf[j * 1]? = some hd2 := by rw [Nat.mul_one]; exact hhd2
        obtain ⟨d, t, rfl, hdN⟩ := hFne f (List.mem_of_getElem? hf1)
        have hcnt := fcount (fun f : List (Nat × Nat) => decide ((f.headD (0, 0)).1 ∈ c)) hf1
        have hkd2 : rowHP hd2 43 2 (d :: t).length (dsV (d :: t)) ∈ kids rowD hf Fs := kids_mem (f := rowD) hhd2 hf1
        have hd0 : (dsV (d :: t))[0 * 2 + 0]? = some (.int .i64 (d.1 : Int)) := rfl
        have hpos : 0 < (d :: t).length := by simp
        repeat' first
          | refine k_then ?_
          | refine c_seq ?_
          | refine c_region ?_
          | refine s_nil ?_
          | refine s_move (by exact rfl) (by exact rfl) ?_
          | refine s_lss (by exact rfl) (by exact rfl) (by exact rfl) ?_
          | refine s_len (by exact rfl) (by exact rfl) (by assumption) ?_
          | refine c_block ?_
          | refine c_skip ?_
          | (refine c_cond_p (by exact rfl) (fun h => ?_) (fun h => ?_) <;> try (exfalso; omega))
        refine know_kid (by exact .tail _ (.tail _ (.head _))) hkd2 fun hsd2 _ => ?_
        refine p_begin0 [(0, true), (1, true), (2, true), (3, true), (4, true), (5, true), (6, true), (7, true), (8, true), (9, true), (10, true), (11, false)] (by kernel_rfl) ?_
        repeat' first
          | (refine p_at (by exact rfl) ?_
             first
              | refine t_move (by exact rfl) (by exact rfl) (by exact fun _ h => h) ?_
              | refine t_idx (by exact rfl) (by exact rfl) (by exact rfl) (by assumption) (by first | assumption | omega) (by exact fun _ h => h) ?_
              | refine t_fap (by exact rfl) (by exact rfl) (by assumption) (by omega) (by exact fun _ h => h) ?_
              | refine t_ld_row (by exact rfl) (by exact rfl) (by first | exact .tail _ (.head _) | exact .tail _ (.tail _ (.tail _ (.head _)))) (by assumption) (by exact fun _ h => h) ?_
              | refine t_ld_kid (by exact rfl) (by exact rfl) (by assumption) (by exact .tail _ (.tail _ (.head _))) (by assumption) (by exact fun _ h => h) ?_)
        refine p_call (gd := none) (by exact rfl) rfl (by exact rfl) (fun w h => HasN_ok hd c d.1 w hsd (ro_kid h (by exact .tail _ (.tail _ (.tail _ (.tail _ (.head _))))) hkd)) (by exact fun _ h => h) ?_
        by_cases hin : d.1 ∈ c
        · rw [decide_eq_true hin]
          rw [if_pos (by simpa using hin)] at hcnt
          have hc1 : (c.length : Int) - (ce : Int) + (((((Fs.take (j + 1)).filter fun f => decide ((f.headD (0, 0)).1 ∈ c)).length : Nat) : Int)) = (c.length : Int) - (ce : Int) + (((((Fs.take j).filter fun f => decide ((f.headD (0, 0)).1 ∈ c)).length : Nat) : Int)) + 1 := by rw [hcnt]; omega
          repeat' first
            | refine p_nil ?_
          repeat' first
            | refine k_then ?_
            | refine c_region ?_
            | refine s_nil ?_
            | refine s_move (by exact rfl) (by exact rfl) ?_
            | refine s_assign (by exact rfl) (by exact rfl) ?_
            | refine s_add (by exact rfl) (by exact rfl) (by exact rfl) (by omega) ?_
            | refine k_blk ?_
            | refine c_cond_t (by exact rfl) ?_
          refine c_round (j + 1) [0, 0, 0, 0, 0, 0] (by exact rfl) (by rw [hc1]; exact ⟨rfl, rfl, rfl, rfl, rfl, rfl, rfl, rfl, rfl, trivial⟩) (by omega) (by omega)
        · rw [decide_eq_false hin]
          rw [if_neg (by simpa using hin), Nat.add_zero] at hcnt
          repeat' first
            | refine p_nil ?_
          repeat' first
            | refine k_then ?_
            | refine c_region ?_
            | refine s_nil ?_
            | refine s_move (by exact rfl) (by exact rfl) ?_
            | refine s_assign (by exact rfl) (by exact rfl) ?_
            | refine s_add (by exact rfl) (by exact rfl) (by exact rfl) (by omega) ?_
            | refine c_skip ?_
            | refine k_blk ?_
            | refine c_cond_f (by exact rfl) ?_
          refine c_round (j + 1) [0, 0, 0, 0, 0, 0] (by exact rfl) (by rw [hcnt]; exact ⟨rfl, rfl, rfl, rfl, rfl, rfl, rfl, rfl, rfl, trivial⟩) (by omega) (by omega)
      · obtain rfl : j = Fs.length := by omega
        rw [List.take_length] at hfj ⊢
        have htk : (cs.take (i + 1)).map (eulerK (tn es) Fs) = (cs.take i).map (eulerK (tn es) Fs) ++ [eulerK (tn es) Fs c] := by rw [List.take_add_one, hci, List.map_append]; rfl
        rw [hKc] at htk
        generalize (Fs.filter fun f => decide ((f.headD (0, 0)).1 ∈ c)).length = cf at *
        by_cases h0 : ce = 0
        · rw [if_pos h0] at htk
          repeat' first
            | refine k_then ?_
            | refine c_seq ?_
            | refine c_region ?_
            | refine s_nil ?_
            | refine s_move (by exact rfl) (by exact rfl) ?_
            | refine s_assign (by exact rfl) (by exact rfl) ?_
            | refine s_lss (by exact rfl) (by exact rfl) (by exact rfl) ?_
            | refine s_eql (by exact rfl) (by exact rfl) (by exact rfl) ?_
            | refine s_add (by exact rfl) (by exact rfl) (by exact rfl) (by omega) ?_
            | refine s_len (by exact rfl) (by exact rfl) (by assumption) ?_
            | refine c_exit ?_
            | refine k_then_exit ?_
            | refine k_blk_eq ?_
            | (refine c_cond_p (by exact rfl) (fun h => ?_) (fun h => ?_) <;> try (exfalso; omega))
          refine o_mk [.int .i64 ((c.length : Int) - (ce : Int) + (cf : Int) + 1)] (by exact rfl) (by exact rfl) rfl ?_ ?_ (by simp) fun vt hvt => ?_
          · simp [Value.cells]
          · simp
          skip
          refine o_append_row (i := 1) (by exact rfl) (by exact rfl) (by exact rfl) (by exact rfl) (by exact .head _) (by exact rfl) (by simp [Value.cells, Value.oneCell']) (by omega) fun vy hvy => ?_
          repeat' first
            | refine k_then ?_
            | refine c_region ?_
            | refine s_nil ?_
            | refine s_move (by exact rfl) (by exact rfl) ?_
            | refine s_assign (by exact rfl) (by exact rfl) ?_
            | refine s_add (by exact rfl) (by exact rfl) (by exact rfl) (by omega) ?_
            | refine k_blk ?_
          refine c_round (i + 1, vy) [1, 1, 1, 1, 1, 1] ?_ ⟨rfl, rfl, rfl, rfl, rfl, rfl, trivial⟩ (by dsimp only; omega) (by dsimp only; omega)
          dsimp only
          rw [htk, show ∀ a b : List Int, iV (a ++ b) = iV a ++ iV b from fun a b => by simp [iV]]
          rfl
        · rw [if_neg h0, Int.add_zero] at htk
          repeat' first
            | refine k_then ?_
            | refine c_seq ?_
            | refine c_region ?_
            | refine s_nil ?_
            | refine s_move (by exact rfl) (by exact rfl) ?_
            | refine s_lss (by exact rfl) (by exact rfl) (by exact rfl) ?_
            | refine s_eql (by exact rfl) (by exact rfl) (by exact rfl) ?_
            | refine s_len (by exact rfl) (by exact rfl) (by assumption) ?_
            | refine c_skip ?_
            | refine c_exit ?_
            | refine k_then_exit ?_
            | refine k_blk_eq ?_
            | (refine c_cond_p (by exact rfl) (fun h => ?_) (fun h => ?_) <;> try (exfalso; omega))
          refine o_mk [.int .i64 ((c.length : Int) - (ce : Int) + (cf : Int))] (by exact rfl) (by exact rfl) rfl ?_ ?_ (by simp) fun vt hvt => ?_
          · simp [Value.cells]
          · simp
          skip
          refine o_append_row (i := 1) (by exact rfl) (by exact rfl) (by exact rfl) (by exact rfl) (by exact .head _) (by exact rfl) (by simp [Value.cells, Value.oneCell']) (by omega) fun vy hvy => ?_
          repeat' first
            | refine k_then ?_
            | refine c_region ?_
            | refine s_nil ?_
            | refine s_move (by exact rfl) (by exact rfl) ?_
            | refine s_assign (by exact rfl) (by exact rfl) ?_
            | refine s_add (by exact rfl) (by exact rfl) (by exact rfl) (by omega) ?_
            | refine k_blk ?_
          refine c_round (i + 1, vy) [1, 1, 1, 1, 1, 1] ?_ ⟨rfl, rfl, rfl, rfl, rfl, rfl, trivial⟩ (by dsimp only; omega) (by dsimp only; omega)
          dsimp only
          rw [htk, show ∀ a b : List Int, iV (a ++ b) = iV a ++ iV b from fun a b => by simp [iV]]
          rfl
  · repeat' first
      | refine k_then ?_
      | refine c_seq ?_
      | refine c_region ?_
      | refine s_nil ?_
      | refine s_move (by exact rfl) (by exact rfl) ?_
      | refine s_assign (by exact rfl) (by exact rfl) ?_
      | refine s_lss (by exact rfl) (by exact rfl) (by exact rfl) ?_
      | refine s_len (by exact rfl) (by exact rfl) (by assumption) ?_
      | refine c_exit ?_
      | refine c_ret ?_
      | refine k_then_exit ?_
      | refine k_blk_eq ?_
      | (refine c_cond_p (by exact rfl) (fun h => ?_) (fun h => ?_) <;> try (exfalso; omega))
    obtain rfl : i = cs.length := by omega
    rw [List.take_length]
    refine ret1 [0] rfl rfl rfl rfl
theorem refPlane_ok (n : Int) (v : Value) (es : List E) (vr : Value) (hr0 : List Value) (R : List (List Nat)) (o lab : Nat → Nat) (w : World) (hs : Shp v es.length) (hr : RO w No v (esV es)) (hG : RightG n es) (hR : ROs w No vr hr0 R) (hRot : RotL n.toNat (tn es) R) (hL : Lev n.toNat (nb (tn es)) o lab) :
    Calls Try.prog 23 #[.agg #[.int .i64 n, v], vr] w (Post w No (Just (.int .i64 (planeR n.toNat (tn es) lab R)))) := by
  have hmany := hG.many
  have hsr := hR.shp
  have hrr := hR.ro
  refine enter0 (vs := [_, _]) Try.func23 rfl Try.ntmps23 rfl ?_
  repeat' first
    | refine k_then ?_
    | refine c_seq ?_
    | refine c_region ?_
    | refine s_nil ?_
    | refine s_move (by exact rfl) (by exact rfl) ?_
    | refine s_assign (by exact rfl) (by exact rfl) ?_
    | refine s_ldk_box (by exact rfl) (by exact rfl) (by exact .head _) (by exact rfl) (by exact rfl) ?_
    | refine o_box (by exact rfl) (by exact rfl) (fun b => ?_)
  revert b; intro bg
  refine s_call (by exact rfl) (by exact rfl) (fun w h => refRotRight_ok n v es vr hr0 (intL R) w hs (ro_old h hr) (by omega) (rosI_old h hR.int)) ?_
  rw [rot_zero hG hRot]
  repeat' first
    | refine k_then ?_
    | refine c_seq ?_
    | refine c_region ?_
    | refine s_nil ?_
    | refine s_move (by exact rfl) (by exact rfl) ?_
    | refine s_assign (by exact rfl) (by exact rfl) ?_
    | refine s_neq (by exact rfl) (by exact rfl) (by exact rfl) ?_
    | refine s_ldk_box (by exact rfl) (by exact rfl) (by exact .head _) (by exact rfl) (by exact rfl) ?_
    | refine c_skip ?_
    | (refine c_cond_p (by exact rfl) (fun h => ?_) (fun h => ?_) <;> try (exfalso; omega))
  refine o_call (by exact rfl) (by exact rfl) (fun w h => refEuler_ok n v es vr hr0 R o lab w hs (ro_old h hr) hG (ros_old h hR) hRot hL) ?_
  rintro vo _ rfl
  refine know_row (v := vo) (.head _) fun hvo _ => ?_
  unfold planeR
  generalize eulerL n.toNat (tn es) lab (facesR n.toNat (tn es) R) = l at *
  have hlm := hvo.1
  simp only [maxLen] at hlm
  repeat' first
    | refine k_then ?_
    | refine c_seq ?_
    | refine c_region ?_
    | refine s_nil ?_
    | refine s_assign (by exact rfl) (by exact rfl) ?_
    | refine c_block ?_
  refine c_loop (fun k : Nat => k ≤ l.length ∧ ∀ x ∈ l.take k, x = 2) (fun k => [(6, vo), (7, .int .i64 (k : Int))]) (fun _ => [rowHP vo 3 1 l.length (iV l)]) (fun k => l.length - k) 0 [0] ⟨Nat.zero_le _, by simp⟩ (by exact rfl) ⟨rfl, rfl, trivial⟩ ?_
  rintro k ⟨hk, hq⟩
  by_cases hlt : k < l.length
  · obtain ⟨e, he⟩ : ∃ e, l[k]? = some e := ⟨_, List.getElem?_eq_getElem hlt⟩
    have hE : (iV l)[k * 1]? = some (.int .i64 e) := by rw [Nat.mul_one, iV, List.getElem?_map, he]; rfl
    by_cases h2 : e = 2
    · repeat' first
        | refine k_then ?_
        | refine c_seq ?_
        | refine c_region ?_
        | refine s_nil ?_
        | refine s_move (by exact rfl) (by exact rfl) ?_
        | refine s_assign (by exact rfl) (by exact rfl) ?_
        | refine s_lss (by exact rfl) (by exact rfl) (by exact rfl) ?_
        | refine s_neq (by exact rfl) (by exact rfl) (by exact rfl) ?_
        | refine s_add (by exact rfl) (by exact rfl) (by exact rfl) (by omega) ?_
        | refine s_len (by exact rfl) (by exact rfl) (by assumption) ?_
        | refine s_idx (by exact rfl) (by exact rfl) (by exact rfl) (by assumption) (by first | assumption | omega) ?_
        | refine s_ld_row (by exact rfl) (by exact rfl) (by exact .head _) (by assumption) ?_
        | refine c_block ?_
        | refine c_skip ?_
        | refine k_blk ?_
        | (refine c_cond_p (by exact rfl) (fun h => ?_) (fun h => ?_) <;> try (exfalso; omega))
      refine c_round (k + 1) [0] (by exact rfl) ⟨rfl, rfl, trivial⟩ ⟨by omega, fun x hx => ?_⟩ (by omega)
      rw [List.take_add_one, he] at hx
      rcases List.mem_append.1 hx with hx | hx
      · exact hq x hx
      · obtain rfl : x = e := by simpa using hx
        exact h2
    · repeat' first
        | refine k_then ?_
        | refine c_seq ?_
        | refine c_region ?_
        | refine s_nil ?_
        | refine s_move (by exact rfl) (by exact rfl) ?_
        | refine s_assign (by exact rfl) (by exact rfl) ?_
        | refine s_lss (by exact rfl) (by exact rfl) (by exact rfl) ?_
        | refine s_neq (by exact rfl) (by exact rfl) (by exact rfl) ?_
        | refine s_len (by exact rfl) (by exact rfl) (by assumption) ?_
        | refine s_idx (by exact rfl) (by exact rfl) (by exact rfl) (by assumption) (by first | assumption | omega) ?_
        | refine s_ld_row (by exact rfl) (by exact rfl) (by exact .head _) (by assumption) ?_
        | refine c_block ?_
        | refine c_skip ?_
        | refine c_ret ?_
        | refine k_then_ret ?_
        | refine k_blk_ret ?_
        | (refine c_cond_p (by exact rfl) (fun h => ?_) (fun h => ?_) <;> try (exfalso; omega))
      refine ret1 [] rfl rfl rfl ⟨?_, rfl⟩
      rw [if_pos (List.any_eq_true.2 ⟨e, List.mem_of_getElem? he, decide_eq_true h2⟩)]
  · repeat' first
      | refine k_then ?_
      | refine c_seq ?_
      | refine c_region ?_
      | refine s_nil ?_
      | refine s_move (by exact rfl) (by exact rfl) ?_
      | refine s_assign (by exact rfl) (by exact rfl) ?_
      | refine s_lss (by exact rfl) (by exact rfl) (by exact rfl) ?_
      | refine s_len (by exact rfl) (by exact rfl) (by assumption) ?_
      | refine c_exit ?_
      | refine c_ret ?_
      | refine k_then_exit ?_
      | refine k_blk_eq ?_
      | (refine c_cond_p (by exact rfl) (fun h => ?_) (fun h => ?_) <;> try (exfalso; omega))
    rw [List.take_of_length_le (by omega)] at hq
    refine ret1 [] rfl rfl rfl ⟨?_, rfl⟩
    rw [if_neg]
    rw [List.any_eq_true]
    rintro ⟨x, hx, hne⟩
    exact of_decide_eq_true hne (hq x hx)
end Go.Proofs.Ytpajjnkmaebhcaa
end
section
set_option linter.unusedVariables false
namespace Go.Proofs.Ytpajjnkmaebhcaa
open Go Go.RowKit Go.Sl Fil
set_option maxRecDepth 100000
set_option maxHeartbeats 8000000
set_option linter.unusedVariables false
set_option linter.unusedSimpArgs false
attribute [local irreducible] Code.wp wpList bodyPost wpQuiet Exit.then Exit.inBlock Post wpAnyH wpOp
theorem RotationEuler_ok (n : Int) (v : Value) (es : List E) (vr : Value) (hr0 : List Value) (ls : List (List Int)) (w : World) (hs : Shp v es.length) (hr : RO w No v (esV es)) (hR : ROsI w No vr hr0 ls) (hlen : ∀ l ∈ ls, l.length ≤ 17592186044416) :
    Calls Try.prog 4 #[.agg #[.int .i64 n, v], vr] w (Post w No (Just (.bool true))) := by
  refine enter0 (vs := [_, _]) Try.func4 rfl Try.ntmps4 rfl ?_
  repeat' first
    | refine k_then ?_
    | refine c_seq ?_
    | refine c_region ?_
    | refine s_nil ?_
    | refine s_move (by exact rfl) (by exact rfl) ?_
    | refine s_assign (by exact rfl) (by exact rfl) ?_
    | refine s_ldk_box (by exact rfl) (by exact rfl) (by exact .head _) (by exact rfl) (by exact rfl) ?_
    | refine o_box (by exact rfl) (by exact rfl) (fun b => ?_)
    | fail
  refine s_call (by exact rfl) (by exact rfl) (fun w h => Light7_ok n v es.length vr hr0 ls 25 w hs (rosI_old h hR) hlen (by omega)) ?_
  cases hl : light7 n es.length ls 25
  · repeat' first
      | refine k_then ?_
      | refine c_seq ?_
      | refine c_region ?_
      | refine s_nil ?_
      | refine s_not (by exact rfl) (by exact rfl) ?_
      | refine c_cond_t (by exact rfl) ?_
      | fail
    refine s_call (vs := []) (by exact rfl) (by exact rfl) (fun w h => alive07_ok w) ?_
    repeat' first
      | refine k_then ?_
      | refine s_nil ?_
      | refine s_assign (by exact rfl) (by exact rfl) ?_
      | refine c_ret ?_
      | refine k_then_ret ?_
      | fail
    refine ret1 [] rfl rfl (by exact rfl) ⟨rfl, rfl⟩
  obtain ⟨l1, l2, l3, l4⟩ := light7_t hl
  have hle : ∀ l ∈ ls, l.length ≤ 1048576 := fun l hl => by have := l4 l hl; omega
  repeat' first
    | refine k_then ?_
    | refine c_seq ?_
    | refine c_region ?_
    | refine s_nil ?_
    | refine s_move (by exact rfl) (by exact rfl) ?_
    | refine s_not (by exact rfl) (by exact rfl) ?_
    | refine s_ldk_box (by exact rfl) (by exact rfl) (by exact .head _) (by exact rfl) (by exact rfl) ?_
    | refine c_skip ?_
    | refine c_cond_f (by exact rfl) ?_
    | fail
  by_cases hk : rotK n es ls = 0
  · obtain ⟨hG, R, rfl, hRot⟩ := rot_sys hk
    have hRs := hR.nat
    obtain ⟨o, lab, hL⟩ := lev_ex w hG
    refine o_call (by exact rfl) (by exact rfl) (fun w h => rotEulerL_ok n v es vr hr0 R o lab w hs (ro_old h hr) hG (ros_old h hRs) hRot hL) ?_
    rintro _ _ ⟨vo, rfl, rfl⟩
    refine know_row (v := vo) (by exact .head _) fun hvo _ => ?_
    repeat' first
      | refine k_then ?_
      | refine c_seq ?_
      | refine c_region ?_
      | refine s_nil ?_
      | refine s_move (by exact rfl) (by exact rfl) ?_
      | refine s_assign (by exact rfl) (by exact rfl) ?_
      | refine s_extract (by exact rfl) (by exact rfl) (by exact rfl) ?_
      | refine s_ldk_box (by exact rfl) (by exact rfl) (by exact .tail _ (.head _)) (by exact rfl) (by exact rfl) ?_
      | fail
    refine s_call (by exact rfl) (by exact rfl) (fun w h => refRotRight_ok n v es vr hr0 _ w hs (ro_old h hr) (by omega) (rosI_old h hR)) ?_
    rw [hk]
    repeat' first
      | refine k_then ?_
      | refine c_seq ?_
      | refine c_region ?_
      | refine s_nil ?_
      | refine s_move (by exact rfl) (by exact rfl) ?_
      | refine s_assign (by exact rfl) (by exact rfl) ?_
      | refine s_neq (by exact rfl) (by exact rfl) (by exact rfl) ?_
      | refine c_skip ?_
      | (refine c_cond_p (by exact rfl) (fun h => ?_) (fun h => ?_) <;> try (exfalso; omega))
      | fail
    refine p_begin0 [(0, true), (1, true), (2, true), (3, true), (4, true), (5, true), (6, false), (7, false), (8, true), (9, true), (10, true), (11, true), (13, true), (14, true), (12, false), (15, false), (16, true), (17, true), (18, true), (19, false), (20, true), (21, true)] (by kernel_rfl) ?_
    repeat' first
      | (refine p_at (by exact rfl) ?_
         first
          | refine t_move (by exact rfl) (by exact rfl) (by exact fun _ h => h) ?_
          | refine t_eql (by exact rfl) (by exact rfl) (by exact rfl) (by exact fun _ h => h) ?_
          | refine tw_move (by exact rfl) (by exact rfl) (by exact rfl) (by exact rfl) (by exact fun _ h => h) ?_
          | refine tw_ldk_box (by exact rfl) (by exact rfl) (by exact rfl) (by exact rfl) (by exact .tail _ (.head _)) (by exact rfl) (by exact rfl) (by exact fun _ h => h) ?_
          | (refine t_case (by exact rfl) (by exact rfl) (fun h => ?_) (fun h => ?_) <;> try (exfalso; omega))
          | fail)
      | fail
    refine p_callw' (vs := [.agg #[.int .i64 n, v], vr]) (by exact rfl) (by exact rfl) (by exact rfl) (by exact rfl) (by exact rfl) (fun w h => refEuler_ok n v es vr hr0 R o lab w hs (ro_old h hr) hG (ros_old h hRs) hRot hL) ?_
    rintro vg _ rfl
    refine ⟨fun _ h => h.tl, ?_⟩
    refine know_rowP (v := vg) (.head _) fun hvg _ => ?_
    generalize hge : eulerL n.toNat (tn es) lab (facesR n.toNat (tn es) R) = l at *
    skip
    refine p_callw (by exact rfl) (by exact rfl) (by exact rfl) rfl (by exact rfl) (fun w h => Ints_ok vo vg l l w hvo hvg (ro_own h (.tail _ (.head _))) (ro_own h (.head _))) (by exact fun _ h => h.tl) ?_
    rw [show decide (l = l) = true from decide_eq_true rfl]
    repeat' first
      | (refine p_at (by exact rfl) ?_
         first
          | refine t_move (by exact rfl) (by exact rfl) (by exact fun _ h => h.tl) ?_
          | refine t_pick_t (by exact rfl) (by exact rfl) (by exact rfl) (by exact fun _ h => h.tl) ?_
          | refine tw_move (by exact rfl) (by exact rfl) (by exact rfl) (by exact rfl) (by exact fun _ h => h.tl) ?_
          | refine tw_ldk_box (by exact rfl) (by exact rfl) (by exact rfl) (by exact rfl) (by exact .tail _ (.head _)) (by exact rfl) (by exact rfl) (by exact fun _ h => h.tl) ?_
          | fail)
      | fail
    refine p_callw (by exact rfl) (by exact rfl) (by exact rfl) rfl (by exact rfl) (fun w h => rotPlane_ok n v es vr hr0 R o lab w hs (ro_old h hr) hG (ros_old h hRs) hRot hL) (by exact fun _ h => h.tl) ?_
    refine p_callw (by exact rfl) (by exact rfl) (by exact rfl) rfl (by exact rfl) (fun w h => refPlane_ok n v es vr hr0 R o lab w hs (ro_old h hr) hG (ros_old h hRs) hRot hL) (by exact fun _ h => h.tl) ?_
    generalize planeR n.toNat (tn es) lab R = K at *
    repeat' first
      | (refine p_at (by exact rfl) ?_
         first
          | refine t_move (by exact rfl) (by exact rfl) (by exact fun _ h => h.tl) ?_
          | refine t_pick_t (by exact rfl) (by exact rfl) (by exact rfl) (by exact fun _ h => h.tl) ?_
          | refine tw_eql (by exact rfl) (by exact rfl) (by exact rfl) (by exact rfl) (by exact rfl) (by exact fun _ h => h.tl) ?_
          | (refine t_case (by exact rfl) (by exact rfl) (fun h => ?_) (fun h => ?_) <;> try (exfalso; omega))
          | fail)
      | fail
    refine p_callw (vs := []) (by exact rfl) (by exact rfl) (by exact rfl) rfl (by exact rfl) (fun w h => alive07_ok w) (by exact fun _ h => h.tl) ?_
    repeat' first
      | refine p_nil ?_
      | (refine p_at (by exact rfl) ?_
         first
          | refine t_assign (by exact rfl) (by exact rfl) (by exact fun _ h => h.tl) ?_
          | refine t_pick_t (by exact rfl) (by exact rfl) (by exact rfl) (by exact fun _ h => h.tl) ?_
          | fail)
      | fail
    repeat' first
      | refine k_then ?_
      | refine c_ret ?_
      | fail
    refine ret1 [] rfl rfl (by exact rfl) ⟨rfl, rfl⟩
  · have hnone : Shp (.slice none 0 0) 0 := ⟨by simp [maxLen], .inl ⟨rfl, rfl⟩⟩
    refine s_call (by exact rfl) (by exact rfl) (fun w h => rotEuler_no n v es vr hr0 ls w hs (ro_old h hr) (by omega) (rosI_old h hR) hle hk) ?_
    repeat' first
      | refine k_then ?_
      | refine c_seq ?_
      | refine c_region ?_
      | refine s_nil ?_
      | refine s_move (by exact rfl) (by exact rfl) ?_
      | refine s_assign (by exact rfl) (by exact rfl) ?_
      | refine s_extract (by exact rfl) (by exact rfl) (by exact rfl) ?_
      | refine s_ldk_box (by exact rfl) (by exact rfl) (by exact .head _) (by exact rfl) (by exact rfl) ?_
      | fail
    refine s_call (by exact rfl) (by exact rfl) (fun w h => refRotRight_ok n v es vr hr0 ls w hs (ro_old h hr) (by omega) (rosI_old h hR)) ?_
    repeat' first
      | refine k_then ?_
      | refine c_seq ?_
      | refine c_region ?_
      | refine s_nil ?_
      | refine s_move (by exact rfl) (by exact rfl) ?_
      | refine s_assign (by exact rfl) (by exact rfl) ?_
      | refine s_eql (by exact rfl) (by exact rfl) (by exact rfl) ?_
      | refine s_neq (by exact rfl) (by exact rfl) (by exact rfl) ?_
      | refine s_pick_t (by exact rfl) (by exact rfl) (by exact rfl) ?_
      | (refine c_cond_p (by exact rfl) (fun h => ?_) (fun h => ?_) <;> try (exfalso; omega))
      | (refine g_case (by exact rfl) (by exact rfl) (fun h => ?_) (fun h => ?_) <;> try (exfalso; omega))
      | refine w_move (by exact rfl) (by exact rfl) (by exact rfl) (by exact rfl) ?_
      | refine w_eql (by exact rfl) (by exact rfl) (by exact rfl) (by exact rfl) (by exact rfl) ?_
      | refine w_len (by exact rfl) (by exact rfl) (by exact rfl) (by exact rfl) (by assumption) ?_
      | refine w_ldk_box (by exact rfl) (by exact rfl) (by exact rfl) (by exact rfl) (by exact .head _) (by exact rfl) (by exact rfl) ?_
      | refine g_on (by exact rfl) (by exact rfl) ?_
      | fail
    refine s_call (by exact rfl) (by exact rfl) (fun w h => rotPlane_no n v es vr hr0 ls w hs (ro_old h hr) (by omega) (rosI_old h hR) hle hk) ?_
    repeat' first
      | refine s_move (by exact rfl) (by exact rfl) ?_
      | refine s_pick_t (by exact rfl) (by exact rfl) (by exact rfl) ?_
      | (refine g_case (by exact rfl) (by exact rfl) (fun h => ?_) (fun h => ?_) <;> try (exfalso; omega))
      | refine w_move (by exact rfl) (by exact rfl) (by exact rfl) (by exact rfl) ?_
      | refine w_eql (by exact rfl) (by exact rfl) (by exact rfl) (by exact rfl) (by exact rfl) ?_
      | refine g_on (by exact rfl) (by exact rfl) ?_
      | fail
    refine s_call (vs := []) (by exact rfl) (by exact rfl) (fun w h => alive07_ok w) ?_
    repeat' first
      | refine k_then ?_
      | refine s_nil ?_
      | refine s_assign (by exact rfl) (by exact rfl) ?_
      | refine s_pick_t (by exact rfl) (by exact rfl) (by exact rfl) ?_
      | refine c_ret ?_
      | refine k_then_ret ?_
      | fail
    refine ret1 [] rfl rfl (by exact rfl) ⟨rfl, rfl⟩
end Go.Proofs.Ytpajjnkmaebhcaa
end
