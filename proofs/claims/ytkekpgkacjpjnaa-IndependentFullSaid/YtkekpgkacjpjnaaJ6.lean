/- Of IndependentFull IndependentTwo: part 6: what the walks rest on, contracts of functions and plain lemmas; no condition but those that each states. -/
import Derived.Test.YtkekpgkacjpjnaaJ5
set_option linter.unusedVariables false
set_option linter.unusedSimpArgs false
section
set_option linter.unusedVariables false
namespace Fil
def halfE (c : List Nat) (a b : Nat) : List Nat := if c.getD a 0 ≠ 0 ∧ c.getD b 0 = 0 then c.set b (3 - c.getD a 0) else c
def twoE (c : List Nat) (e : Nat × Nat) : List Nat := halfE (halfE c e.1 e.2) e.2 e.1
theorem halfE_length (c : List Nat) (a b : Nat) : (halfE c a b).length = c.length := by
  unfold halfE
  split <;> simp
theorem twoE_length (c : List Nat) (e : Nat × Nat) : (twoE c e).length = c.length := by
  rw [twoE, halfE_length, halfE_length]
theorem twoE_fold_length : ∀ (r : List (Nat × Nat)) (c : List Nat), (r.foldl twoE c).length = c.length
  | [], _ => rfl
  | e :: r, c => by rw [List.foldl_cons, twoE_fold_length r, twoE_length]
theorem rounds_two_length (es : List (Nat × Nat)) (c : List Nat) : ∀ k, (rounds twoE es k c).length = c.length
  | 0 => rfl
  | k + 1 => by rw [rounds, twoE_fold_length, rounds_two_length es c k]
theorem set_le {c : List Nat} {i x m : Nat} (h : ∀ v, c.getD v 0 ≤ m) (hx : x ≤ m) (v : Nat) : (c.set i x).getD v 0 ≤ m := by
  rw [getD_set]
  split
  · exact hx
  · exact h v
theorem halfE_le {c : List Nat} {a b : Nat} (h : ∀ v, c.getD v 0 ≤ 2) : ∀ v, (halfE c a b).getD v 0 ≤ 2 := by
  unfold halfE
  split
  · rename_i hc
    exact set_le h (by have := hc.1; omega)
  · exact h
theorem twoE_le {c : List Nat} {e : Nat × Nat} (h : ∀ v, c.getD v 0 ≤ 2) : ∀ v, (twoE c e).getD v 0 ≤ 2 := halfE_le (halfE_le h)
theorem twoE_fold_le : ∀ (r : List (Nat × Nat)) (c : List Nat), (∀ v, c.getD v 0 ≤ 2) → ∀ v, (r.foldl twoE c).getD v 0 ≤ 2
  | [], _, h => h
  | e :: r, c, h => twoE_fold_le r _ (twoE_le h)
theorem rounds_two_le {es : List (Nat × Nat)} {c : List Nat} (h : ∀ v, c.getD v 0 ≤ 2) : ∀ k v, (rounds twoE es k c).getD v 0 ≤ 2
  | 0 => h
  | k + 1 => twoE_fold_le es _ (rounds_two_le h k)
def two0 (N : Nat) (lab : Nat → Nat) : List Nat := (List.range N).map fun v => if lab v = v then 1 else 0
theorem two0_le (N : Nat) (lab : Nat → Nat) (v : Nat) : (two0 N lab).getD v 0 ≤ 2 := by
  rw [List.getD_eq_getElem?_getD, two0, List.getElem?_map]
  by_cases hv : v < N
  · rw [List.getElem?_range hv]
    simp only [Option.map_some, Option.getD_some]
    split <;> omega
  · rw [List.getElem?_eq_none (by simpa using hv)]; simp
end Fil
namespace Go.Proofs.Ytkekpgkacjpjnaa
open Go Go.RowKit Go.Sl Fil
set_option maxRecDepth 100000
set_option maxHeartbeats 8000000
set_option linter.unusedVariables false
set_option linter.unusedSimpArgs false
attribute [local irreducible] Code.wp wpList bodyPost wpQuiet Exit.then Exit.inBlock Post wpAnyH wpOp
theorem refTwo_ok (n : Int) (v : Value) (es : List E) (o lab : Nat → Nat) (w : World) (hs : Shp v es.length) (hr : RO w No v (esV es)) (hR : RightG n es) (hLev : Lev n.toNat (nb (tn es)) o lab) :
    Calls Try.prog 33 #[.agg #[.int .i64 n, v]] w (Post w No fun r L' => ∃ vo, r = .tuple #[vo, .bool (decide (∀ e ∈ tn es, (rounds twoE (tn es) n.toNat (two0 n.toNat lab)).getD e.1 0 ≠ (rounds twoE (tn es) n.toNat (two0 n.toNat lab)).getD e.2 0))] ∧ L' = []) := by
  have hlo := hR.lo
  have hhi := hR.hi
  have hm := hR.many
  refine enter0 (vs := [_]) Try.func33 rfl Try.ntmps33 rfl ?_
  repeat' first
    | refine k_then ?_
    | refine c_seq ?_
    | refine c_region ?_
    | refine s_nil ?_
    | refine s_assign (by exact rfl) (by exact rfl) ?_
    | refine s_fa (by exact rfl) (by exact rfl) ?_
    | refine s_ld_box (by exact rfl) (by exact rfl) (by exact .head _) (by exact rfl) ?_
    | refine o_box (by exact rfl) (by exact rfl) (fun b => ?_)
  revert b; intro b1
  refine o_make (by exact rfl) (by exact rfl) (by exact rfl) (by omega) (by omega) fun vc hvc => ?_
  rw [made1 (z := .int .i64 0) rfl]
  repeat' first
    | refine k_then ?_
    | refine c_seq ?_
    | refine c_region ?_
    | refine s_nil ?_
    | refine s_assign (by exact rfl) (by exact rfl) ?_
    | refine s_ldk_box (by exact rfl) (by exact rfl) (by exact .tail _ (.head _)) (by exact rfl) (by exact rfl) ?_
  refine o_call (by exact rfl) (by exact rfl) (fun w h => Labels_ok n v es w hs (ro_old h hr) hR) ?_
  rintro vl _ rfl
  rw [ref_labels hR.good hLev]
  refine know_row (v := vl) (.head _) fun hvl _ => ?_
  generalize hN : n.toNat = N at *
  have hnN : n = (N : Int) := by omega
  subst hnN
  have hvc : Shp vc N := hvc
  repeat' first
    | refine k_then ?_
    | refine c_seq ?_
    | refine c_region ?_
    | refine s_nil ?_
    | refine s_assign (by exact rfl) (by exact rfl) ?_
    | refine c_block ?_
  refine c_loop (fun i : Nat => i ≤ N) (fun i => [(1, .pointer (some ⟨b1, 0, none⟩)), (4, vc), (5, vl), (6, .int .i64 (i : Int))]) (fun i => [rowHP vc 3 1 N (nV (upTo N i (fun v => if lab v = v then 1 else 0) 0)), rowHP vl 3 1 N (nV ((List.range N).map lab)), boxHP b1 24 [.int .i64 (N : Int), v]]) (fun i => N - i) 0 [1, 0, 0] (Nat.zero_le _) (by rw [upTo_zero]; simp only [nV, List.map_replicate]; exact rfl) ⟨rfl, rfl, rfl, rfl, trivial⟩ ?_
  intro i hi
  by_cases hil : i < N
  · have hli : (nV ((List.range N).map lab))[i * 1]? = some (.int .i64 (lab i : Int)) := by simp [nV, hil]
    by_cases hlb : lab i = i
    · have hup := upTo_set hil (fun v => if lab v = v then 1 else 0) 0
      simp only [hlb, if_true] at hup
      repeat' first
        | refine k_then ?_
        | refine c_seq ?_
        | refine c_region ?_
        | refine s_nil ?_
        | refine s_move (by exact rfl) (by exact rfl) ?_
        | refine s_fa (by exact rfl) (by exact rfl) ?_
        | refine s_ld_box (by exact rfl) (by exact rfl) (by exact .tail _ (.tail _ (.head _))) (by exact rfl) ?_
        | refine s_lss (by exact rfl) (by exact rfl) (by exact rfl) ?_
        | refine s_eql (by exact rfl) (by exact rfl) (by exact rfl) ?_
        | refine s_idx (by exact rfl) (by exact rfl) (by exact rfl) (by assumption) (by first | assumption | omega) ?_
        | refine s_ld_row (by exact rfl) (by exact rfl) (by exact .tail _ (.head _)) (by assumption) ?_
        | refine c_block ?_
        | refine c_skip ?_
        | (refine c_cond_p (by exact rfl) (fun h => ?_) (fun h => ?_) <;> try (exfalso; omega))
      refine o_st_row (i := 0) (by exact rfl) (by exact rfl) (by exact rfl) rfl (by omega) ?_
      rw [show (Value.int .i64 1) = .int .i64 ((1 : Nat) : Int) from rfl, nV_set, hup]
      repeat' first
        | refine k_then ?_
        | refine c_region ?_
        | refine s_nil ?_
        | refine s_move (by exact rfl) (by exact rfl) ?_
        | refine s_assign (by exact rfl) (by exact rfl) ?_
        | refine s_add (by exact rfl) (by exact rfl) (by exact rfl) (by omega) ?_
        | refine k_blk ?_
      refine c_round (i + 1) [0, 0, 0] (by exact rfl) ⟨rfl, rfl, rfl, rfl, trivial⟩ (by omega) (by omega)
    · have hup := upTo_same (N := N) (c := i) (fun v => if lab v = v then 1 else 0) 0 (if_neg hlb)
      repeat' first
        | refine k_then ?_
        | refine c_seq ?_
        | refine c_region ?_
        | refine s_nil ?_
        | refine s_move (by exact rfl) (by exact rfl) ?_
        | refine s_assign (by exact rfl) (by exact rfl) ?_
        | refine s_fa (by exact rfl) (by exact rfl) ?_
        | refine s_ld_box (by exact rfl) (by exact rfl) (by exact .tail _ (.tail _ (.head _))) (by exact rfl) ?_
        | refine s_lss (by exact rfl) (by exact rfl) (by exact rfl) ?_
        | refine s_eql (by exact rfl) (by exact rfl) (by exact rfl) ?_
        | refine s_add (by exact rfl) (by exact rfl) (by exact rfl) (by omega) ?_
        | refine s_idx (by exact rfl) (by exact rfl) (by exact rfl) (by assumption) (by first | assumption | omega) ?_
        | refine s_ld_row (by exact rfl) (by exact rfl) (by exact .tail _ (.head _)) (by assumption) ?_
        | refine c_block ?_
        | refine c_skip ?_
        | refine k_blk ?_
        | (refine c_cond_p (by exact rfl) (fun h => ?_) (fun h => ?_) <;> try (exfalso; omega))
      refine c_round (i + 1) [0, 0, 0] (by rw [hup]; exact rfl) ⟨rfl, rfl, rfl, rfl, trivial⟩ (by omega) (by omega)
  · obtain rfl : i = N := by omega
    rw [upTo_all]
    have h0l : (two0 i lab).length = i := by simp [two0]
    have h0le := two0_le i lab
    rw [show (List.range i).map (fun v => if lab v = v then 1 else 0) = two0 i lab from rfl]
    generalize two0 i lab = c00 at *
    repeat' first
      | refine k_then ?_
      | refine c_seq ?_
      | refine c_region ?_
      | refine s_nil ?_
      | refine s_move (by exact rfl) (by exact rfl) ?_
      | refine s_assign (by exact rfl) (by exact rfl) ?_
      | refine s_fa (by exact rfl) (by exact rfl) ?_
      | refine s_ld_box (by exact rfl) (by exact rfl) (by exact .tail _ (.tail _ (.head _))) (by exact rfl) ?_
      | refine s_lss (by exact rfl) (by exact rfl) (by exact rfl) ?_
      | refine c_block ?_
      | refine c_exit ?_
      | refine k_then_exit ?_
      | refine k_blk_eq ?_
      | (refine c_cond_p (by exact rfl) (fun h => ?_) (fun h => ?_) <;> try (exfalso; omega))
    refine c_loop (fun q : Nat => q ≤ i) (fun q => [(1, .pointer (some ⟨b1, 0, none⟩)), (4, vc), (7, .int .i64 (q : Int))]) (fun q => [rowHP vc 3 1 i (nV (rounds twoE (tn es) q c00)), boxHP b1 24 [.int .i64 (i : Int), v]]) (fun q => i - q) 0 [0, 1] (Nat.zero_le _) (by exact rfl) ⟨rfl, rfl, rfl, trivial⟩ ?_
    intro q hq
    by_cases hql : q < i
    · repeat' first
        | refine k_then ?_
        | refine c_seq ?_
        | refine c_region ?_
        | refine s_nil ?_
        | refine s_move (by exact rfl) (by exact rfl) ?_
        | refine s_assign (by exact rfl) (by exact rfl) ?_
        | refine s_fa (by exact rfl) (by exact rfl) ?_
        | refine s_ld_box (by exact rfl) (by exact rfl) (by exact .tail _ (.head _)) (by exact rfl) ?_
        | refine s_lss (by exact rfl) (by exact rfl) (by exact rfl) ?_
        | refine c_block ?_
        | refine c_skip ?_
        | (refine c_cond_p (by exact rfl) (fun h => ?_) (fun h => ?_) <;> try (exfalso; omega))
      have hcl0 := rounds_two_length (tn es) c00 q
      have hcle0 := rounds_two_le (es := tn es) h0le q
      generalize hc0 : rounds twoE (tn es) q c00 = c0 at *
      refine c_loop (fun k : Nat => k ≤ es.length) (fun k => [(1, .pointer (some ⟨b1, 0, none⟩)), (4, vc), (7, .int .i64 (q : Int)), (8, .int .i64 (k : Int))]) (fun k => [rowHP vc 3 1 i (nV ((tn (es.take k)).foldl twoE c0)), boxHP b1 24 [.int .i64 (i : Int), v]]) (fun k => es.length - k) 0 [0, 0] (Nat.zero_le _) (by exact rfl) ⟨rfl, rfl, rfl, rfl, trivial⟩ ?_
      intro k hk
      by_cases hkl : k < es.length
      · obtain ⟨e, he⟩ : ∃ e, es[k]? = some e := ⟨_, List.getElem?_eq_getElem hkl⟩
        obtain ⟨hE0, hE1, hE2⟩ := esV_get he
        obtain ⟨q1, q2, q3, -, -⟩ := hR.ok e (List.mem_of_getElem? he)
        have htk := tn_take he
        have hcl := twoE_fold_length (tn (es.take k)) c0
        have hcle := twoE_fold_le (tn (es.take k)) c0 hcle0
        generalize hc : (tn (es.take k)).foldl twoE c0 = c at *
        have hu := nV_get (l := c) (k := e.1.toNat) (by omega)
        have hv := nV_get (l := c) (k := e.2.1.toNat) (by omega)
        have lu := hcle e.1.toNat
        have lv := hcle e.2.1.toNat
        repeat' first
          | refine k_then ?_
          | refine c_seq ?_
          | refine c_region ?_
          | refine s_nil ?_
          | refine s_move (by exact rfl) (by exact rfl) ?_
          | refine s_fa (by exact rfl) (by exact rfl) ?_
          | refine s_ld_box (by exact rfl) (by exact rfl) (by exact .tail _ (.head _)) (by exact rfl) ?_
          | refine s_lss (by exact rfl) (by exact rfl) (by exact rfl) ?_
          | refine s_len (by exact rfl) (by exact rfl) (by assumption) ?_
          | refine c_block ?_
          | refine c_skip ?_
          | (refine c_cond_p (by exact rfl) (fun h => ?_) (fun h => ?_) <;> try (exfalso; omega))
        refine p_begin0 [(0, true), (1, true), (2, true), (3, true), (4, true), (5, true), (6, true), (7, true), (8, true), (9, true), (10, true), (11, true), (12, true), (13, true)] (by kernel_rfl) ?_
        repeat' first
          | refine p_nil ?_
          | (refine p_at (by exact rfl) ?_
             first
              | refine t_move (by exact rfl) (by exact rfl) (by exact fun _ h => h) ?_
              | refine t_assign (by exact rfl) (by exact rfl) (by exact fun _ h => h) ?_
              | refine t_fa (by exact rfl) (by exact rfl) (by exact fun _ h => h) ?_
              | refine t_ld_box (by exact rfl) (by exact rfl) (by exact .tail _ (.head _)) (by exact rfl) (by exact fun _ h => h) ?_
              | refine t_idx (by exact rfl) (by exact rfl) (by exact rfl) (by assumption) (by first | assumption | omega) (by exact fun _ h => h) ?_
              | refine t_fap (by exact rfl) (by exact rfl) (by assumption) (by omega) (by exact fun _ h => h) ?_
              | refine t_ld_ro (by exact rfl) (by exact rfl) (by assumption) (by assumption) (by exact fun _ h => h) ?_)
        generalize hreg : Code.seq (Code.region 15 _ _) _ = creg
        repeat' first
          | refine k_then ?_
          | refine c_seq ?_
        subst hreg
        refine c_join (X := Unit) (fun _ => [(1, .pointer (some ⟨b1, 0, none⟩)), (4, vc), (7, .int .i64 (q : Int)), (8, .int .i64 (k : Int)), (9, .int .i64 e.1), (10, .int .i64 e.2.1)]) (fun _ => [rowHP vc 3 1 i (nV (halfE c e.1.toNat e.2.1.toNat)), boxHP b1 24 [.int .i64 (i : Int), v]]) (fun K hkK => ?_) (fun _ => ?_)
        · by_cases hp : c.getD e.1.toNat 0 ≠ 0
          · by_cases hq2 : c.getD e.2.1.toNat 0 = 0
            · have hh : halfE c e.1.toNat e.2.1.toNat = c.set e.2.1.toNat (3 - c.getD e.1.toNat 0) := if_pos ⟨hp, hq2⟩
              repeat' first
                | refine k_then ?_
                | refine c_seq ?_
                | refine c_region ?_
                | refine s_nil ?_
                | refine s_move (by exact rfl) (by exact rfl) ?_
                | refine s_neq (by exact rfl) (by exact rfl) (by exact rfl) ?_
                | refine s_sub (by exact rfl) (by exact rfl) (by exact rfl) (by omega) ?_
                | refine s_idxi (by exact rfl) (by exact rfl) (by exact rfl) (by assumption) (by first | assumption | omega) ?_
                | refine s_pick_t (by exact rfl) (by exact rfl) (by exact rfl) ?_
                | refine s_ld_row (by exact rfl) (by exact rfl) (by exact .head _) (by assumption) ?_
                | (refine c_cond_p (by exact rfl) (fun h => ?_) (fun h => ?_) <;> try (exfalso; omega))
                | (refine g_case (by exact rfl) (by exact rfl) (fun h => ?_) (fun h => ?_) <;> try (exfalso; omega))
                | refine w_move (by exact rfl) (by exact rfl) (by exact rfl) (by exact rfl) ?_
                | refine w_eql (by exact rfl) (by exact rfl) (by exact rfl) (by exact rfl) (by exact rfl) ?_
                | refine w_idxi (by exact rfl) (by exact rfl) (by exact rfl) (by exact rfl) (by exact rfl) (by assumption) (by first | assumption | omega) ?_
                | refine w_ld_row (by exact rfl) (by exact rfl) (by exact rfl) (by exact rfl) (by exact .head _) (by assumption) ?_
              refine o_st_row (i := 0) (by exact rfl) (by exact rfl) (by exact rfl) rfl (by omega) ?_
              rw [show (3 : Int) - ((c.getD e.1.toNat 0 : Nat) : Int) = ((3 - c.getD e.1.toNat 0 : Nat) : Int) by omega, nV_set, ← hh]
              repeat' first
                | refine k_then ?_
                | refine s_nil ?_
              exact j_end hkK () [0, 0] (by exact rfl) ⟨rfl, rfl, rfl, rfl, rfl, rfl, trivial⟩
            · have hh : halfE c e.1.toNat e.2.1.toNat = c := if_neg fun h => hq2 h.2
              repeat' first
                | refine k_then ?_
                | refine c_seq ?_
                | refine c_region ?_
                | refine s_nil ?_
                | refine s_move (by exact rfl) (by exact rfl) ?_
                | refine s_neq (by exact rfl) (by exact rfl) (by exact rfl) ?_
                | refine s_idxi (by exact rfl) (by exact rfl) (by exact rfl) (by assumption) (by first | assumption | omega) ?_
                | refine s_pick_t (by exact rfl) (by exact rfl) (by exact rfl) ?_
                | refine s_ld_row (by exact rfl) (by exact rfl) (by exact .head _) (by assumption) ?_
                | refine c_skip ?_
                | (refine c_cond_p (by exact rfl) (fun h => ?_) (fun h => ?_) <;> try (exfalso; omega))
                | (refine g_case (by exact rfl) (by exact rfl) (fun h => ?_) (fun h => ?_) <;> try (exfalso; omega))
                | refine w_move (by exact rfl) (by exact rfl) (by exact rfl) (by exact rfl) ?_
                | refine w_eql (by exact rfl) (by exact rfl) (by exact rfl) (by exact rfl) (by exact rfl) ?_
                | refine w_idxi (by exact rfl) (by exact rfl) (by exact rfl) (by exact rfl) (by exact rfl) (by assumption) (by first | assumption | omega) ?_
                | refine w_ld_row (by exact rfl) (by exact rfl) (by exact rfl) (by exact rfl) (by exact .head _) (by assumption) ?_
              exact j_end hkK () [0, 0] (by rw [hh]; exact rfl) ⟨rfl, rfl, rfl, rfl, rfl, rfl, trivial⟩
          · have hh : halfE c e.1.toNat e.2.1.toNat = c := if_neg fun h => hp h.1
            repeat' first
              | refine k_then ?_
              | refine c_seq ?_
              | refine c_region ?_
              | refine s_nil ?_
              | refine s_move (by exact rfl) (by exact rfl) ?_
              | refine s_neq (by exact rfl) (by exact rfl) (by exact rfl) ?_
              | refine s_idxi (by exact rfl) (by exact rfl) (by exact rfl) (by assumption) (by first | assumption | omega) ?_
              | refine s_pick_f (by exact rfl) (by exact rfl) (by exact rfl) ?_
              | refine s_ld_row (by exact rfl) (by exact rfl) (by exact .head _) (by assumption) ?_
              | refine c_skip ?_
              | refine c_cond_f (by exact rfl) ?_
              | (refine g_case (by exact rfl) (by exact rfl) (fun h => ?_) (fun h => ?_) <;> try (exfalso; omega))
              | refine g_skip (by exact rfl) (by exact rfl) (by exact rfl) (by exact rfl) ?_
            exact j_end hkK () [0, 0] (by rw [hh]; exact rfl) ⟨rfl, rfl, rfl, rfl, rfl, rfl, trivial⟩
        have hcl2 := halfE_length c e.1.toNat e.2.1.toNat
        have hcle2 := halfE_le (a := e.1.toNat) (b := e.2.1.toNat) hcle
        have hst : twoE c (e.1.toNat, e.2.1.toNat) = halfE (halfE c e.1.toNat e.2.1.toNat) e.2.1.toNat e.1.toNat := rfl
        clear hu hv lu lv
        generalize halfE c e.1.toNat e.2.1.toNat = c1 at *
        have hu := nV_get (l := c1) (k := e.1.toNat) (by omega)
        have hv := nV_get (l := c1) (k := e.2.1.toNat) (by omega)
        have lu := hcle2 e.1.toNat
        have lv := hcle2 e.2.1.toNat
        by_cases hp : c1.getD e.2.1.toNat 0 ≠ 0
        · by_cases hq2 : c1.getD e.1.toNat 0 = 0
          · have hh : halfE c1 e.2.1.toNat e.1.toNat = c1.set e.1.toNat (3 - c1.getD e.2.1.toNat 0) := if_pos ⟨hp, hq2⟩
            repeat' first
              | refine k_then ?_
              | refine c_seq ?_
              | refine c_region ?_
              | refine s_nil ?_
              | refine s_move (by exact rfl) (by exact rfl) ?_
              | refine s_neq (by exact rfl) (by exact rfl) (by exact rfl) ?_
              | refine s_sub (by exact rfl) (by exact rfl) (by exact rfl) (by omega) ?_
              | refine s_idxi (by exact rfl) (by exact rfl) (by exact rfl) (by assumption) (by first | assumption | omega) ?_
              | refine s_pick_t (by exact rfl) (by exact rfl) (by exact rfl) ?_
              | refine s_ld_row (by exact rfl) (by exact rfl) (by exact .head _) (by assumption) ?_
              | (refine c_cond_p (by exact rfl) (fun h => ?_) (fun h => ?_) <;> try (exfalso; omega))
              | (refine g_case (by exact rfl) (by exact rfl) (fun h => ?_) (fun h => ?_) <;> try (exfalso; omega))
              | refine w_move (by exact rfl) (by exact rfl) (by exact rfl) (by exact rfl) ?_
              | refine w_eql (by exact rfl) (by exact rfl) (by exact rfl) (by exact rfl) (by exact rfl) ?_
              | refine w_idxi (by exact rfl) (by exact rfl) (by exact rfl) (by exact rfl) (by exact rfl) (by assumption) (by first | assumption | omega) ?_
              | refine w_ld_row (by exact rfl) (by exact rfl) (by exact rfl) (by exact rfl) (by exact .head _) (by assumption) ?_
            refine o_st_row (i := 0) (by exact rfl) (by exact rfl) (by exact rfl) rfl (by omega) ?_
            rw [show (3 : Int) - ((c1.getD e.2.1.toNat 0 : Nat) : Int) = ((3 - c1.getD e.2.1.toNat 0 : Nat) : Int) by omega, nV_set, ← hh]
            repeat' first
              | refine k_then ?_
              | refine c_region ?_
              | refine s_nil ?_
              | refine s_move (by exact rfl) (by exact rfl) ?_
              | refine s_assign (by exact rfl) (by exact rfl) ?_
              | refine s_add (by exact rfl) (by exact rfl) (by exact rfl) (by omega) ?_
              | refine k_blk ?_
            refine c_round (k + 1) [0, 0] (by rw [htk, List.foldl_append, hc, List.foldl_cons, List.foldl_nil, hst]; exact rfl) ⟨rfl, rfl, rfl, rfl, trivial⟩ (by omega) (by omega)
          · have hh : halfE c1 e.2.1.toNat e.1.toNat = c1 := if_neg fun h => hq2 h.2
            repeat' first
              | refine k_then ?_
              | refine c_seq ?_
              | refine c_region ?_
              | refine s_nil ?_
              | refine s_move (by exact rfl) (by exact rfl) ?_
              | refine s_assign (by exact rfl) (by exact rfl) ?_
              | refine s_neq (by exact rfl) (by exact rfl) (by exact rfl) ?_
              | refine s_add (by exact rfl) (by exact rfl) (by exact rfl) (by omega) ?_
              | refine s_idxi (by exact rfl) (by exact rfl) (by exact rfl) (by assumption) (by first | assumption | omega) ?_
              | refine s_pick_t (by exact rfl) (by exact rfl) (by exact rfl) ?_
              | refine s_ld_row (by exact rfl) (by exact rfl) (by exact .head _) (by assumption) ?_
              | refine c_skip ?_
              | refine k_blk ?_
              | (refine c_cond_p (by exact rfl) (fun h => ?_) (fun h => ?_) <;> try (exfalso; omega))
              | (refine g_case (by exact rfl) (by exact rfl) (fun h => ?_) (fun h => ?_) <;> try (exfalso; omega))
              | refine w_move (by exact rfl) (by exact rfl) (by exact rfl) (by exact rfl) ?_
              | refine w_eql (by exact rfl) (by exact rfl) (by exact rfl) (by exact rfl) (by exact rfl) ?_
              | refine w_idxi (by exact rfl) (by exact rfl) (by exact rfl) (by exact rfl) (by exact rfl) (by assumption) (by first | assumption | omega) ?_
              | refine w_ld_row (by exact rfl) (by exact rfl) (by exact rfl) (by exact rfl) (by exact .head _) (by assumption) ?_
            refine c_round (k + 1) [0, 0] (by rw [htk, List.foldl_append, hc, List.foldl_cons, List.foldl_nil, hst, hh]; exact rfl) ⟨rfl, rfl, rfl, rfl, trivial⟩ (by omega) (by omega)
        · have hh : halfE c1 e.2.1.toNat e.1.toNat = c1 := if_neg fun h => hp h.1
          repeat' first
            | refine k_then ?_
            | refine c_seq ?_
            | refine c_region ?_
            | refine s_nil ?_
            | refine s_move (by exact rfl) (by exact rfl) ?_
            | refine s_assign (by exact rfl) (by exact rfl) ?_
            | refine s_neq (by exact rfl) (by exact rfl) (by exact rfl) ?_
            | refine s_add (by exact rfl) (by exact rfl) (by exact rfl) (by omega) ?_
            | refine s_idxi (by exact rfl) (by exact rfl) (by exact rfl) (by assumption) (by first | assumption | omega) ?_
            | refine s_pick_f (by exact rfl) (by exact rfl) (by exact rfl) ?_
            | refine s_ld_row (by exact rfl) (by exact rfl) (by exact .head _) (by assumption) ?_
            | refine c_skip ?_
            | refine k_blk ?_
            | refine c_cond_f (by exact rfl) ?_
            | (refine g_case (by exact rfl) (by exact rfl) (fun h => ?_) (fun h => ?_) <;> try (exfalso; omega))
            | refine g_skip (by exact rfl) (by exact rfl) (by exact rfl) (by exact rfl) ?_
          refine c_round (k + 1) [0, 0] (by rw [htk, List.foldl_append, hc, List.foldl_cons, List.foldl_nil, hst, hh]; exact rfl) ⟨rfl, rfl, rfl, rfl, trivial⟩ (by omega) (by omega)
      · repeat' first
          | refine k_then ?_
          | refine c_seq ?_
          | refine c_region ?_
          | refine s_nil ?_
          | refine s_move (by exact rfl) (by exact rfl) ?_
          | refine s_assign (by exact rfl) (by exact rfl) ?_
          | refine s_fa (by exact rfl) (by exact rfl) ?_
          | refine s_ld_box (by exact rfl) (by exact rfl) (by exact .tail _ (.head _)) (by exact rfl) ?_
          | refine s_lss (by exact rfl) (by exact rfl) (by exact rfl) ?_
          | refine s_add (by exact rfl) (by exact rfl) (by exact rfl) (by omega) ?_
          | refine s_len (by exact rfl) (by exact rfl) (by assumption) ?_
          | refine c_exit ?_
          | refine k_then_exit ?_
          | refine k_blk ?_
          | refine k_blk_eq ?_
          | (refine c_cond_p (by exact rfl) (fun h => ?_) (fun h => ?_) <;> try (exfalso; omega))
        obtain rfl : k = es.length := by omega
        refine c_round (q + 1) [0, 0] (by rw [List.take_length, rounds, hc0]; rfl) ⟨rfl, rfl, rfl, trivial⟩ (by omega) (by omega)
    · obtain rfl : q = i := by omega
      repeat' first
        | refine k_then ?_
        | refine c_seq ?_
        | refine c_region ?_
        | refine s_nil ?_
        | refine s_move (by exact rfl) (by exact rfl) ?_
        | refine s_fa (by exact rfl) (by exact rfl) ?_
        | refine s_ld_box (by exact rfl) (by exact rfl) (by exact .tail _ (.head _)) (by exact rfl) ?_
        | refine s_lss (by exact rfl) (by exact rfl) (by exact rfl) ?_
        | refine c_exit ?_
        | refine k_then_exit ?_
        | refine k_blk_eq ?_
        | (refine c_cond_p (by exact rfl) (fun h => ?_) (fun h => ?_) <;> try (exfalso; omega))
      have hcl := rounds_two_length (tn es) c00 q
      generalize rounds twoE (tn es) q c00 = c at *
      refine o_make (by exact rfl) (by exact rfl) (by exact rfl) (by omega) (by omega) fun vo hvo => ?_
      rw [made1 (z := .bool false) rfl, show List.replicate ((q : Int).toNat) (Value.bool false) = bV (List.replicate q false) by simp [bV]]
      have hvo : Shp vo q := hvo
      repeat' first
        | refine k_then ?_
        | refine c_seq ?_
        | refine c_region ?_
        | refine s_nil ?_
        | refine s_assign (by exact rfl) (by exact rfl) ?_
        | refine c_block ?_
      refine c_loop (fun k : Nat => k ≤ es.length ∧ ∀ e ∈ tn (es.take k), c.getD e.1 0 ≠ c.getD e.2 0) (fun k => [(1, .pointer (some ⟨b1, 0, none⟩)), (4, vc), (11, vo), (12, .int .i64 (k : Int))]) (fun k => [rowHP vo 4 1 q (bV (List.replicate q false)), rowHP vc 3 1 q (nV c), boxHP b1 24 [.int .i64 (q : Int), v]]) (fun k => es.length - k) 0 [0, 0, 0] ⟨Nat.zero_le _, by simp [tn]⟩ (by exact rfl) ⟨rfl, rfl, rfl, rfl, trivial⟩ ?_
      rintro k ⟨hk, hall⟩
      by_cases hkl : k < es.length
      · obtain ⟨e, he⟩ : ∃ e, es[k]? = some e := ⟨_, List.getElem?_eq_getElem hkl⟩
        obtain ⟨hE0, hE1, hE2⟩ := esV_get he
        obtain ⟨q1, q2, q3, -, -⟩ := hR.ok e (List.mem_of_getElem? he)
        have htk := tn_take he
        have hu := nV_get (l := c) (k := e.1.toNat) (by omega)
        have hv := nV_get (l := c) (k := e.2.1.toNat) (by omega)
        repeat' first
          | refine k_then ?_
          | refine c_seq ?_
          | refine c_region ?_
          | refine s_nil ?_
          | refine s_move (by exact rfl) (by exact rfl) ?_
          | refine s_fa (by exact rfl) (by exact rfl) ?_
          | refine s_ld_box (by exact rfl) (by exact rfl) (by exact .tail _ (.tail _ (.head _))) (by exact rfl) ?_
          | refine s_lss (by exact rfl) (by exact rfl) (by exact rfl) ?_
          | refine s_len (by exact rfl) (by exact rfl) (by assumption) ?_
          | refine c_block ?_
          | refine c_skip ?_
          | (refine c_cond_p (by exact rfl) (fun h => ?_) (fun h => ?_) <;> try (exfalso; omega))
        refine p_begin0 [(0, true), (1, true), (2, true), (3, true), (4, true), (5, true), (6, true), (7, true), (8, true), (9, true), (10, true), (11, true), (12, true), (13, true), (14, true), (15, true), (16, true), (17, true), (18, true)] (by kernel_rfl) ?_
        repeat' first
          | refine p_nil ?_
          | (refine p_at (by exact rfl) ?_
             first
              | refine t_move (by exact rfl) (by exact rfl) (by exact fun _ h => h) ?_
              | refine t_fa (by exact rfl) (by exact rfl) (by exact fun _ h => h) ?_
              | refine t_ld_box (by exact rfl) (by exact rfl) (by exact .tail _ (.tail _ (.head _))) (by exact rfl) (by exact fun _ h => h) ?_
              | refine t_eql (by exact rfl) (by exact rfl) (by exact rfl) (by exact fun _ h => h) ?_
              | refine t_idx (by exact rfl) (by exact rfl) (by exact rfl) (by assumption) (by first | assumption | omega) (by exact fun _ h => h) ?_
              | refine t_idxi (by exact rfl) (by exact rfl) (by exact rfl) (by assumption) (by first | assumption | omega) (by exact fun _ h => h) ?_
              | refine t_fap (by exact rfl) (by exact rfl) (by assumption) (by omega) (by exact fun _ h => h) ?_
              | refine t_ld_ro (by exact rfl) (by exact rfl) (by assumption) (by assumption) (by exact fun _ h => h) ?_
              | refine t_ld_row (by exact rfl) (by exact rfl) (by exact .tail _ (.head _)) (by assumption) (by exact fun _ h => h) ?_)
        repeat' first
          | refine k_then ?_
          | refine c_seq ?_
          | refine c_region ?_
          | refine s_nil ?_
          | refine s_move (by exact rfl) (by exact rfl) ?_
          | refine s_assign (by exact rfl) (by exact rfl) ?_
          | refine s_add (by exact rfl) (by exact rfl) (by exact rfl) (by omega) ?_
          | refine c_skip ?_
          | refine c_ret ?_
          | refine k_then_ret ?_
          | refine k_blk ?_
          | refine k_blk_ret ?_
          | (refine c_cond_p (by exact rfl) (fun h => ?_) (fun h => ?_) <;> try (exfalso; omega))
        · refine ret2 [] rfl rfl (by exact rfl) rfl ⟨.slice none 0 0, ?_, rfl⟩
          rw [decide_eq_false fun hh => hh _ (List.mem_map.2 ⟨e, List.mem_of_getElem? he, rfl⟩) (by dsimp only; omega)]
        · refine c_round (k + 1) [0, 0, 0] (by exact rfl) ⟨rfl, rfl, rfl, rfl, trivial⟩ ⟨by omega, ?_⟩ (by omega)
          intro p hp
          rw [htk] at hp
          rcases List.mem_append.1 hp with hp | hp
          · exact hall p hp
          · obtain rfl : p = _ := by simpa using hp
            dsimp only
            omega
      · rw [List.take_of_length_le (by omega)] at hall
        rw [decide_eq_true hall]
        repeat' first
          | refine k_then ?_
          | refine c_seq ?_
          | refine c_region ?_
          | refine s_nil ?_
          | refine s_move (by exact rfl) (by exact rfl) ?_
          | refine s_assign (by exact rfl) (by exact rfl) ?_
          | refine s_fa (by exact rfl) (by exact rfl) ?_
          | refine s_ld_box (by exact rfl) (by exact rfl) (by exact .tail _ (.tail _ (.head _))) (by exact rfl) ?_
          | refine s_lss (by exact rfl) (by exact rfl) (by exact rfl) ?_
          | refine s_len (by exact rfl) (by exact rfl) (by assumption) ?_
          | refine c_block ?_
          | refine c_exit ?_
          | refine k_then_exit ?_
          | refine k_blk_eq ?_
          | (refine c_cond_p (by exact rfl) (fun h => ?_) (fun h => ?_) <;> try (exfalso; omega))
        refine c_loop (fun x : Nat × List Bool => x.1 ≤ q ∧ x.2.length = q) (fun x => [(1, .pointer (some ⟨b1, 0, none⟩)), (4, vc), (11, vo), (13, .int .i64 (x.1 : Int))]) (fun x => [rowHP vo 4 1 q (bV x.2), rowHP vc 3 1 q (nV c), boxHP b1 24 [.int .i64 (q : Int), v]]) (fun x => q - x.1) (0, List.replicate q false) [0, 0, 0] ⟨Nat.zero_le _, by simp⟩ (by exact rfl) ⟨rfl, rfl, rfl, rfl, trivial⟩ ?_
        rintro ⟨j, lb⟩ ⟨hj, hlb⟩
        dsimp only at hj hlb ⊢
        by_cases hjl : j < q
        · have hcj := nV_get (l := c) (k := j) (by omega)
          repeat' first
            | refine k_then ?_
            | refine c_seq ?_
            | refine c_region ?_
            | refine s_nil ?_
            | refine s_move (by exact rfl) (by exact rfl) ?_
            | refine s_fa (by exact rfl) (by exact rfl) ?_
            | refine s_ld_box (by exact rfl) (by exact rfl) (by exact .tail _ (.tail _ (.head _))) (by exact rfl) ?_
            | refine s_lss (by exact rfl) (by exact rfl) (by exact rfl) ?_
            | refine s_eql (by exact rfl) (by exact rfl) (by exact rfl) ?_
            | refine s_idx (by exact rfl) (by exact rfl) (by exact rfl) (by assumption) (by first | assumption | omega) ?_
            | refine s_ld_row (by exact rfl) (by exact rfl) (by exact .tail _ (.head _)) (by assumption) ?_
            | refine c_block ?_
            | refine c_skip ?_
            | (refine c_cond_p (by exact rfl) (fun h => ?_) (fun h => ?_) <;> try (exfalso; omega))
          refine o_st_row (i := 0) (by exact rfl) (by exact rfl) (by exact rfl) rfl (by omega) ?_
          rw [bV_set]
          repeat' first
            | refine k_then ?_
            | refine c_region ?_
            | refine s_nil ?_
            | refine s_move (by exact rfl) (by exact rfl) ?_
            | refine s_assign (by exact rfl) (by exact rfl) ?_
            | refine s_add (by exact rfl) (by exact rfl) (by exact rfl) (by omega) ?_
            | refine k_blk ?_
          refine c_round (j + 1, lb.set j (decide (((c.getD j 0 : Nat) : Int) = 2))) [0, 0, 0] (by exact rfl) ⟨rfl, rfl, rfl, rfl, trivial⟩ ⟨by dsimp only; omega, by simpa using hlb⟩ (by dsimp only; omega)
        · repeat' first
            | refine k_then ?_
            | refine c_seq ?_
            | refine c_region ?_
            | refine s_nil ?_
            | refine s_move (by exact rfl) (by exact rfl) ?_
            | refine s_assign (by exact rfl) (by exact rfl) ?_
            | refine s_fa (by exact rfl) (by exact rfl) ?_
            | refine s_ld_box (by exact rfl) (by exact rfl) (by exact .tail _ (.tail _ (.head _))) (by exact rfl) ?_
            | refine s_lss (by exact rfl) (by exact rfl) (by exact rfl) ?_
            | refine c_exit ?_
            | refine c_ret ?_
            | refine k_then_exit ?_
            | refine k_blk_eq ?_
            | (refine c_cond_p (by exact rfl) (fun h => ?_) (fun h => ?_) <;> try (exfalso; omega))
          refine ret2 [] rfl rfl (by exact rfl) rfl ⟨vo, rfl, rfl⟩
end Go.Proofs.Ytkekpgkacjpjnaa
end
section
set_option linter.unusedVariables false
namespace Fil
theorem mem_lessL {es : List E} {i j : Nat} {e : E} (h : es[j]? = some e) (hn : j ≠ i) : e ∈ lessL [(i : Int)] es := by
  rw [lessL, List.mem_map]
  refine ⟨(e, j), List.mem_filter.2 ⟨?_, ?_⟩, rfl⟩
  · rw [List.mem_zipIdx_iff_getElem?]; exact h
  · simp; omega
theorem lessL_idx {es : List E} {i : Nat} {e : E} (h : e ∈ lessL [(i : Int)] es) : ∃ j, j ≠ i ∧ es[j]? = some e := by
  rw [lessL, List.mem_map] at h
  obtain ⟨⟨x, j⟩, h1, rfl⟩ := h
  obtain ⟨h2, h3⟩ := List.mem_filter.1 h1
  refine ⟨j, ?_, by rw [List.mem_zipIdx_iff_getElem?] at h2; exact h2⟩
  simp at h3; omega
theorem countP_ltm {α : Type} {p q : α → Bool} : ∀ {l : List α} {x : α}, (∀ y ∈ l, p y = true → q y = true) → x ∈ l → p x = false → q x = true → l.countP p < l.countP q
  | y :: l, x, h, hx, h1, h2 => by
    have mono : l.countP p ≤ l.countP q := List.countP_mono_left fun z hz hp => h z (.tail _ hz) hp
    simp only [List.countP_cons]
    rcases List.mem_cons.1 hx with rfl | hx
    · simp [h1, h2]; omega
    · have := countP_ltm (fun z hz => h z (.tail _ hz)) hx h1 h2
      by_cases hp : p y = true
      · simp [hp, h y (.head _) hp]; omega
      · simp only [hp]; simp; omega
/-- edge i joins a and b -/
def Joins (es : List E) (i a b : Nat) : Prop := ∃ e, es[i]? = some e ∧ (e.1.toNat = a ∧ e.2.1.toNat = b ∨ e.1.toNat = b ∧ e.2.1.toNat = a)
theorem Joins.symm {es : List E} {i a b : Nat} (h : Joins es i a b) : Joins es i b a := h.imp fun _ h => ⟨h.1, h.2.symm⟩
theorem near_joins {n : Int} {es : List E} (hR : RightG n es) {a b : Nat} : a ∈ nb (tn es) b ↔ ∃ i, Joins es i a b := by
  rw [mem_nb hR.tn_ne, mem_tn, mem_tn]
  constructor
  · rintro (⟨e, h1, h2, h3⟩ | ⟨e, h1, h2, h3⟩)
    · obtain ⟨i, hi⟩ := List.getElem?_of_mem h1
      exact ⟨i, e, hi, .inr ⟨h2, h3⟩⟩
    · obtain ⟨i, hi⟩ := List.getElem?_of_mem h1
      exact ⟨i, e, hi, .inl ⟨h2, h3⟩⟩
  · rintro ⟨i, e, h1, ⟨h2, h3⟩ | ⟨h2, h3⟩⟩
    · exact .inr ⟨e, List.mem_of_getElem? h1, h2, h3⟩
    · exact .inl ⟨e, List.mem_of_getElem? h1, h2, h3⟩
theorem less_joins {n : Int} {es : List E} (hR : RightG n es) {i a b : Nat} : a ∈ nb (tn (lessL [(i : Int)] es)) b ↔ ∃ j, j ≠ i ∧ Joins es j a b := by
  have hR2 := hR.sub (lessL_sub [(i : Int)] es)
  rw [mem_nb hR2.tn_ne, mem_tn, mem_tn]
  constructor
  · rintro (⟨e, h1, h2, h3⟩ | ⟨e, h1, h2, h3⟩)
    · obtain ⟨j, h4, h5⟩ := lessL_idx h1
      exact ⟨j, h4, e, h5, .inr ⟨h2, h3⟩⟩
    · obtain ⟨j, h4, h5⟩ := lessL_idx h1
      exact ⟨j, h4, e, h5, .inl ⟨h2, h3⟩⟩
  · rintro ⟨j, h4, e, h1, ⟨h2, h3⟩ | ⟨h2, h3⟩⟩
    · exact .inr ⟨e, mem_lessL h1 h4, h2, h3⟩
    · exact .inl ⟨e, mem_lessL h1 h4, h2, h3⟩
section
variable {n : Int} {es : List E} {o lab : Nat → Nat} {os labs : Nat → Nat → Nat}
theorem Joins.lt (hR : RightG n es) {i a b : Nat} (h : Joins es i a b) : a < n.toNat ∧ b < n.toNat ∧ a ≠ b := by
  have h1 := mem_nearS.2 ((near_joins hR).2 ⟨i, h⟩)
  have := nearS_lt hR h1
  exact ⟨this.1, this.2.1, this.2.2.1⟩
theorem bridge_ne (hR : RightG n es) (hL : Lev n.toNat (nb (tn es)) o lab) (hLs : ∀ i : Nat, Lev n.toNat (nb (tn (lessL [(i : Int)] es))) (os i) (labs i)) {i : Nat} (hB : (compsS n.toNat lab).length < (compsS n.toNat (labs i)).length) {a b : Nat} (h : Joins es i a b) : labs i a ≠ labs i b := by
  intro heq
  have e1 : ∀ v, v < n.toNat → lab v = labs i v := fun v hv => by
    have h1 := hL.conn v hv (labs i) fun w hw u hu => by
      obtain ⟨j, hj⟩ := (near_joins hR).1 hu
      by_cases hji : j = i
      · subst hji
        obtain ⟨e, e1, e2⟩ := h
        obtain ⟨f, f1, f2⟩ := hj
        rw [e1] at f1
        obtain rfl : e = f := by simpa using f1
        rcases e2 with ⟨rfl, rfl⟩ | ⟨rfl, rfl⟩ <;> rcases f2 with ⟨rfl, rfl⟩ | ⟨rfl, rfl⟩ <;> simp_all
      · exact ((hLs i).edge w hw u ((less_joins hR).2 ⟨j, hji, hj⟩)).1
    have h2 := (hLs i).conn v hv lab fun w hw u hu => by
      obtain ⟨j, _, hj⟩ := (less_joins hR).1 hu
      exact (hL.edge w hw u ((near_joins hR).2 ⟨j, hj⟩)).1
    have l1 := hL.le v hv
    have l2 := (hLs i).le v hv
    have l3 := hL.le (labs i v) (by omega)
    have l4 := (hLs i).le (lab v) (by omega)
    omega
  rw [compsS_congr e1] at hB
  omega
theorem bridge_path (hR : RightG n es) (hL : Lev n.toNat (nb (tn es)) o lab) (hLs : ∀ i : Nat, Lev n.toNat (nb (tn (lessL [(i : Int)] es))) (os i) (labs i)) (hB : ∀ i, i < es.length → (compsS n.toNat lab).length < (compsS n.toNat (labs i)).length) (S : Nat → Prop) (hS : ∀ v, S v → ∃ u w, u ≠ w ∧ S u ∧ S w ∧ u ∈ nb (tn es) v ∧ w ∈ nb (tn es) v) :
    ∀ (m i a b : Nat), Joins es i a b → S b → (List.range n.toNat).countP (fun x => labs i x == labs i b) ≤ m → False := by
  have hlt : ∀ {i a b}, Joins es i a b → i < es.length := fun h => (List.getElem?_eq_some_iff.1 h.choose_spec.1).1
  have main : ∀ i a b, Joins es i a b → S b → ∃ j b', Joins es j b b' ∧ S b' ∧ (List.range n.toNat).countP (fun x => labs j x == labs j b') < (List.range n.toNat).countP (fun x => labs i x == labs i b) := by
    intro i a b hi hb
    obtain ⟨u, w, huw, hu, hw, nu, nw⟩ := hS b hb
    obtain ⟨b', hb', hba, nb'⟩ : ∃ b', S b' ∧ b' ≠ a ∧ b' ∈ nb (tn es) b := by
      by_cases e : u = a
      · exact ⟨w, hw, fun e2 => huw (e.trans e2.symm), nw⟩
      · exact ⟨u, hu, e, nu⟩
    obtain ⟨j, hj⟩ := (near_joins hR).1 nb'
    have hj' := hj.symm
    obtain ⟨l1, l2, l3⟩ := hi.lt hR
    obtain ⟨k1, k2, k3⟩ := hj'.lt hR
    have hji : j ≠ i := fun e => by
      subst e
      obtain ⟨e, e1, e2⟩ := hi
      obtain ⟨f, f1, f2⟩ := hj'
      rw [e1] at f1
      obtain rfl : e = f := by simpa using f1
      omega
    have bi := bridge_ne hR hL hLs (hB i (hlt hi)) hi
    have bj := bridge_ne hR hL hLs (hB j (hlt hj')) hj'
    have hib : labs i b' = labs i b := ((hLs i).edge b k1 b' ((less_joins hR).2 ⟨j, hji, hj⟩)).1
    refine ⟨j, b', hj', hb', ?_⟩
    refine countP_ltm (x := b) (fun x hx hpx => ?_) (List.mem_range.2 k1) (by simpa using bj) (by simp)
    have hxN : x < n.toNat := by simpa using hx
    have hpx : labs j x = labs j b' := by simpa using hpx
    have hL2 := hLs j
    have hc := hL2.conn
    have key : ∀ y, y < n.toNat → (if labs i y = labs i b ∧ labs j y = labs j b' then 1 else 0) = (if labs i (labs j y) = labs i b ∧ labs j (labs j y) = labs j b' then 1 else 0) := fun y hy =>
      hL2.conn y hy (fun y => if labs i y = labs i b ∧ labs j y = labs j b' then 1 else 0) fun w hw u hu => by
        have hjw := (hL2.edge w hw u hu).1
        obtain ⟨k, hkj, hk⟩ := (less_joins hR).1 hu
        by_cases hki : k = i
        · subst hki
          obtain ⟨e, e1, e2⟩ := hi
          obtain ⟨f, f1, f2⟩ := hk
          rw [e1] at f1
          obtain rfl : e = f := by simpa using f1
          have h0 : ∀ z, z = a ∨ z = b → ¬ (labs k z = labs k b ∧ labs j z = labs j b') := by
            rintro z (rfl | rfl) ⟨z1, z2⟩
            · exact bi z1
            · exact bj z2
          have hu2 : u = a ∨ u = b := by omega
          have hw2 : w = a ∨ w = b := by omega
          dsimp only
          rw [if_neg (h0 u hu2), if_neg (h0 w hw2)]
        · have hiw := ((hLs i).edge w hw u ((less_joins hR).2 ⟨k, hki, hk⟩)).1
          dsimp only
          rw [hjw, hiw]
    have kx := key x hxN
    have kb := key b' (by have := (hj'.lt hR).2.1; omega)
    rw [if_pos ⟨hib, rfl⟩] at kb
    rw [hpx, ← kb] at kx
    split at kx
    · rename_i hh; simpa using hh.1
    · simp at kx
  intro m
  induction m with
  | zero =>
    intro i a b h hb hm
    obtain ⟨j, b', h1, h2, h3⟩ := main i a b h hb
    omega
  | succ m ih =>
    intro i a b h hb hm
    obtain ⟨j, b', h1, h2, h3⟩ := main i a b h hb
    exact ih j b b' h1 h2 (by omega)
theorem two_of {l : List Nat} (hn : l.Nodup) (h : 2 ≤ l.length) : ∃ u w, u ≠ w ∧ u ∈ l ∧ w ∈ l := by
  match l, h with
  | a :: b :: l, _ =>
    refine ⟨a, b, fun e => ?_, by simp, by simp⟩
    exact (List.nodup_cons.1 hn).1 (e ▸ .head _)
theorem forest_run (hR : RightG n es) (hL : Lev n.toNat (nb (tn es)) o lab) (hLs : ∀ i : Nat, Lev n.toNat (nb (tn (lessL [(i : Int)] es))) (os i) (labs i)) (hB : ∀ i, i < es.length → (compsS n.toNat lab).length < (compsS n.toNat (labs i)).length) :
    ∀ (k : Nat) (A : Nat → Option (List Nat)), WF n.toNat A → (∀ a m, A a = some m → ∀ u, u ∈ m ↔ u ∈ nearS (tn es) a ∧ A u ≠ none) → ∀ p ∈ runS n.toNat k A, p.2.length ≤ 1
  | 0, A, _, _, p, hp => by simp [runS] at hp
  | k + 1, A, h, hA, p, hp => by
    cases hf : fewI A n.toNat with
    | none => simp [runS, hf] at hp
    | some v =>
      obtain ⟨hvN, l, hAv⟩ := fewI_some hf
      have hl1 : l.length ≤ 1 := by
        refine Decidable.byContradiction fun hn => ?_
        have hS : ∀ x, (∃ m, A x = some m) → ∃ u w, u ≠ w ∧ (∃ m, A u = some m) ∧ (∃ m, A w = some m) ∧ u ∈ nb (tn es) x ∧ w ∈ nb (tn es) x := by
          rintro x ⟨m, hm⟩
          have hle := fewI_least hf x m (h.lt hm) hm
          rw [lenF, hAv] at hle
          have hle : l.length ≤ m.length := hle
          obtain ⟨u, w, h1, h2, h3⟩ := two_of (h.nd x m hm) (by omega)
          have hu := (hA x m hm u).1 h2
          have hw := (hA x m hm w).1 h3
          exact ⟨u, w, h1, Option.ne_none_iff_exists'.1 hu.2, Option.ne_none_iff_exists'.1 hw.2, mem_nearS.1 hu.1, mem_nearS.1 hw.1⟩
        obtain ⟨u, w, h1, h2, h3, h4, h5⟩ := hS v ⟨l, hAv⟩
        obtain ⟨i, hi⟩ := (near_joins hR).1 h4
        exact bridge_path hR hL hLs hB (fun x => ∃ m, A x = some m) hS _ i u v hi ⟨l, hAv⟩ (Nat.le_refl _)
      simp only [runS, hf, hAv, Option.getD_some] at hp
      rcases List.mem_cons.1 hp with rfl | hp
      · show (sortN l).length ≤ 1
        rw [(sortN_perm l).length_eq]; exact hl1
      · refine forest_run hR hL hLs hB k (elimF A v) (h.elim hAv) (fun a m hm u => ?_) p hp
        obtain ⟨h1, m0, h2, he⟩ := (elimF_some h hAv).1 hm
        have hn := elimF_none h hAv (a := u)
        have hmem : u ∈ m ↔ u ∈ m0 ∧ u ≠ v := by
          have hf2 : u ∈ m0.filter (fun x => x ≠ v) ↔ u ∈ m0 ∧ u ≠ v := by simp [List.mem_filter]
          rw [he]
          split
          · rename_i hal
            rw [mem_addL, hf2]
            constructor
            · rintro (h3 | ⟨h3, h4⟩)
              · exact h3
              · have h3 := (sortN_perm l).mem_iff.1 h3
                exfalso
                match l, hl1, h3, hal with
                | [x], _, h3, hal =>
                  have e1 : u = x := by simpa using h3
                  have e2 : a = x := by simpa using hal
                  exact h4 (e1.trans e2.symm)
            · exact .inl
          · exact hf2
        rw [hmem, hA a m0 h2 u]
        constructor
        · rintro ⟨⟨h3, h4⟩, h5⟩
          exact ⟨h3, fun h6 => (hn.1 h6).elim h5 h4⟩
        · rintro ⟨h3, h4⟩
          exact ⟨⟨h3, fun h6 => h4 (hn.2 (.inr h6))⟩, fun h6 => h4 (hn.2 (.inl h6))⟩
theorem widthL_le {T : List (Nat × List Nat)} {m : Nat} (h : ∀ p ∈ T, p.2.length ≤ m) : widthL T ≤ m := by
  have key : ∀ (T : List (Nat × List Nat)) (w : Nat), w ≤ m → (∀ p ∈ T, p.2.length ≤ m) → T.foldl (fun w p => max w p.2.length) w ≤ m := by
    intro T
    induction T with
    | nil => intro w hw _; exact hw
    | cons p T ih =>
      intro w hw hT
      rw [List.foldl_cons]
      exact ih _ (Nat.max_le.2 ⟨hw, hT p (.head _)⟩) fun q hq => hT q (.tail _ hq)
  exact key T 0 (Nat.zero_le _) h
theorem getD_set_ne0 {c : List Nat} {i x v : Nat} (hx : x ≠ 0) (h : c.getD v 0 ≠ 0) : (c.set i x).getD v 0 ≠ 0 := by
  rw [getD_set]
  split
  · exact hx
  · exact h
theorem halfE_keep {c : List Nat} {a b v : Nat} (hc : ∀ v, c.getD v 0 ≤ 2) (h : c.getD v 0 ≠ 0) : (halfE c a b).getD v 0 ≠ 0 := by
  unfold halfE
  split
  · have := hc a
    exact getD_set_ne0 (by omega) h
  · exact h
theorem halfE_give {c : List Nat} {a b : Nat} (hc : ∀ v, c.getD v 0 ≤ 2) (hb : b < c.length) (h : c.getD a 0 ≠ 0) : (halfE c a b).getD b 0 ≠ 0 := by
  unfold halfE
  split
  · have := hc a
    rw [getD_set, if_pos ⟨rfl, hb⟩]; omega
  · rename_i hn
    exact fun h0 => hn ⟨h, h0⟩
theorem twoE_keep {c : List Nat} {e : Nat × Nat} {v : Nat} (hc : ∀ v, c.getD v 0 ≤ 2) (h : c.getD v 0 ≠ 0) : (twoE c e).getD v 0 ≠ 0 := halfE_keep (halfE_le hc) (halfE_keep hc h)
theorem twoE_give {c : List Nat} {a b : Nat} (hc : ∀ v, c.getD v 0 ≤ 2) (ha : a < c.length) (hb : b < c.length) : (c.getD a 0 ≠ 0 → (twoE c (a, b)).getD b 0 ≠ 0) ∧ (c.getD b 0 ≠ 0 → (twoE c (a, b)).getD a 0 ≠ 0) :=
  ⟨fun h => halfE_keep (halfE_le hc) (halfE_give hc hb h), fun h => halfE_give (halfE_le hc) (by rw [halfE_length]; exact ha) (halfE_keep hc h)⟩
theorem two_fold_keep : ∀ (r : List (Nat × Nat)) (c : List Nat), (∀ v, c.getD v 0 ≤ 2) → ∀ v, c.getD v 0 ≠ 0 → (r.foldl twoE c).getD v 0 ≠ 0
  | [], _, _, _, h => h
  | e :: r, c, hc, v, h => two_fold_keep r _ (twoE_le hc) v (twoE_keep hc h)
theorem two_fold_give {N : Nat} : ∀ (r : List (Nat × Nat)) (c : List Nat), (∀ v, c.getD v 0 ≤ 2) → c.length = N → ∀ a b, a < N → b < N → ((a, b) ∈ r ∨ (b, a) ∈ r) → c.getD a 0 ≠ 0 → (r.foldl twoE c).getD b 0 ≠ 0
  | [], _, _, _, _, _, _, _, h, _ => by simp at h
  | e :: r, c, hc, hl, a, b, ha, hb, hm, h => by
    rw [List.foldl_cons]
    by_cases h1 : e = (a, b)
    · subst h1
      exact two_fold_keep r _ (twoE_le hc) b ((twoE_give hc (by omega) (by omega)).1 h)
    · by_cases h2 : e = (b, a)
      · subst h2
        exact two_fold_keep r _ (twoE_le hc) b ((twoE_give hc (by omega) (by omega)).2 h)
      · refine two_fold_give r _ (twoE_le hc) (by rw [twoE_length, hl]) a b ha hb ?_ (twoE_keep hc h)
        rcases hm with hm | hm
        · exact .inl ((List.mem_cons.1 hm).resolve_left fun e => h1 e.symm)
        · exact .inr ((List.mem_cons.1 hm).resolve_left fun e => h2 e.symm)
theorem two_all (hR : RightG n es) (hL : Lev n.toNat (nb (tn es)) o lab) : ∀ k v, v < n.toNat → o v ≤ k → (rounds twoE (tn es) k (two0 n.toNat lab)).getD v 0 ≠ 0
  | 0, v, hv, hk => by
    have h0 := (hL.root v hv).1 (by omega)
    simp [rounds, two0, List.getD_eq_getElem?_getD, hv, h0]
  | k + 1, v, hv, hk => by
    have hle := rounds_two_le (es := tn es) (two0_le n.toNat lab) k
    have hlen : (rounds twoE (tn es) k (two0 n.toNat lab)).length = n.toNat := by rw [rounds_two_length]; simp [two0]
    rw [rounds]
    by_cases ho : o v ≤ k
    · exact two_fold_keep _ _ hle v (two_all hR hL k v hv ho)
    · obtain ⟨u, hu, hou, hm⟩ := hL.steps hR.good v k hv (by omega)
      exact two_fold_give (N := n.toNat) _ _ hle hlen u v hu hv hm (two_all hR hL k u hu (by omega))
theorem two_half (hR : RightG n es) (hL : Lev n.toNat (nb (tn es)) o lab) (hc : ∀ e ∈ tn es, (rounds twoE (tn es) n.toNat (two0 n.toNat lab)).getD e.1 0 ≠ (rounds twoE (tn es) n.toNat (two0 n.toNat lab)).getD e.2 0) {l : List Nat} (hM : MaxIn (nearS (tn es)) n.toNat (fun _ => true) l) : n.toNat ≤ 2 * l.length := by
  have h0 : ∀ v, v < n.toNat → (rounds twoE (tn es) n.toNat (two0 n.toNat lab)).getD v 0 ≠ 0 := fun v hv => two_all hR hL n.toNat v hv (Nat.le_of_lt (hL.lt hR.good.adj v hv))
  have h2 := rounds_two_le (es := tn es) (two0_le n.toNat lab) n.toNat
  generalize rounds twoE (tn es) n.toNat (two0 n.toNat lab) = c at *
  have hI : ∀ x, ((List.range n.toNat).filter fun v => c.getD v 0 == x).length ≤ l.length := fun x => by
    refine hM.top _ ⟨List.nodup_range.filter _, fun u hu v hv huv => ?_, fun _ _ _ _ => rfl⟩ fun u hu => ⟨by simpa using (List.mem_filter.1 hu).1, rfl⟩
    have hu := (List.mem_filter.1 hu).2
    have hv := (List.mem_filter.1 hv).2
    rw [mem_nearS, mem_nb hR.tn_ne] at huv
    simp only [beq_iff_eq] at hu hv
    rcases huv with h | h
    · exact hc _ h (by dsimp only; omega)
    · exact hc _ h (by dsimp only; omega)
  have h1 := hI 1
  have h3 := hI 2
  have hs := List.length_eq_countP_add_countP (fun v => c.getD v 0 == 1) (l := List.range n.toNat)
  have he : (List.range n.toNat).countP (fun v => ¬ (c.getD v 0 == 1) = true) = ((List.range n.toNat).filter fun v => c.getD v 0 == 2).length := by
    rw [← List.countP_eq_length_filter]
    apply List.countP_congr
    intro v hv
    have := h0 v (by simpa using hv)
    have := h2 v
    simp only [beq_iff_eq, decide_eq_true_eq]
    omega
  rw [← List.countP_eq_length_filter] at h1
  rw [List.length_range, he] at hs
  omega
end
end Fil
end
section
namespace Go.Proofs.Ytkekpgkacjpjnaa
open Go Go.RowKit Go.Sl Fil
theorem calls_ex {P : Program} {f : FuncId} {args : Array Value} {w : World} {R : Ending → World → Prop} (h : Calls P f args w R) : ∃ e w', R e w' := by
  obtain ⟨e, w', _, hR, _⟩ := h []
  exact ⟨e, w', hR⟩
theorem lev_ex (w : World) {n : Int} {es : List E} (hR : RightG n es) : ∃ o lab, Lev n.toNat (nb (tn es)) o lab := by
  have hm := hR.many
  let W : World := { w with heap := #[.cells (esV es).toArray 47 (0, 0)] }
  have hs : Shp (.slice (some ⟨0, 0, none⟩) es.length es.length) es.length := ⟨by simp only [maxLen]; omega, .inr ⟨0, 0, es.length, rfl, Nat.le_refl _, by simp only [maxLen]; omega⟩⟩
  have hr : RO W No (.slice (some ⟨0, 0, none⟩) es.length es.length) (esV es) := RO.of_rd fun j u hj => ⟨0, 0, es.length, es.length, rfl, by simp [World.cell?, W, hj]⟩
  obtain ⟨e, w', h⟩ := calls_ex (levOf_ok n _ es W hs hr hR)
  obtain ⟨v, L, hG, _⟩ := h
  obtain ⟨out, lab, vo, _, _, _, hL⟩ := hG
  exact ⟨_, _, hL.nb_of⟩
set_option maxRecDepth 100000
set_option maxHeartbeats 8000000
set_option linter.unusedVariables false
set_option linter.unusedSimpArgs false
attribute [local irreducible] Code.wp wpList bodyPost wpQuiet Exit.then Exit.inBlock Post wpAnyH wpOp
theorem IndependentTwo_ok (n : Int) (v : Value) (es : List E) (w : World) (hs : Shp v es.length) (hr : RO w No v (esV es)) :
    Calls Try.prog 10 #[.agg #[.int .i64 n, v]] w (Post w No (Just (.bool true))) := by
  refine enter0 (vs := [_]) Try.func10 rfl Try.ntmps10 rfl ?_
  repeat' first
    | refine k_then ?_
    | refine c_seq ?_
    | refine c_region ?_
    | refine s_nil ?_
    | refine s_assign (by exact rfl) (by exact rfl) ?_
    | refine s_ldk_box (by exact rfl) (by exact rfl) (by exact .head _) (by exact rfl) (by exact rfl) ?_
    | refine o_box (by exact rfl) (by exact rfl) (fun b => ?_)
  cases hl : (decide (n ≤ 22) && decide ((es.length : Int) ≤ 4 * 22))
  · refine s_call (by exact rfl) (by exact rfl) (fun w h => Light_b n v es.length 22 false w hl hs (by omega)) ?_
    repeat' first
      | refine k_then ?_
      | refine c_seq ?_
      | refine c_region ?_
      | refine s_nil ?_
      | refine s_move (by exact rfl) (by exact rfl) ?_
      | refine s_not (by exact rfl) (by exact rfl) ?_
      | refine s_pick_t (by exact rfl) (by exact rfl) (by exact rfl) ?_
      | refine c_cond_t (by exact rfl) ?_
      | refine g_skip (by exact rfl) (by exact rfl) (by exact rfl) (by exact rfl) ?_
    refine s_call (vs := []) (by exact rfl) (by exact rfl) (fun w h => alive19_ok w) ?_
    repeat' first
      | refine k_then ?_
      | refine s_nil ?_
      | refine s_assign (by exact rfl) (by exact rfl) ?_
      | refine c_ret ?_
      | refine k_then_ret ?_
    refine ret1 [] rfl rfl (by exact rfl) ⟨rfl, rfl⟩
  · refine s_call (by exact rfl) (by exact rfl) (fun w h => Light_b n v es.length 22 true w hl hs (by omega)) ?_
    have hn : n ≤ 22 ∧ (es.length : Int) ≤ 88 := by simpa using hl
    repeat' first
      | refine s_move (by exact rfl) (by exact rfl) ?_
      | refine s_not (by exact rfl) (by exact rfl) ?_
      | refine w_ldk_box (by exact rfl) (by exact rfl) (by exact rfl) (by exact rfl) (by exact .head _) (by exact rfl) (by exact rfl) ?_
      | refine g_on (by exact rfl) (by exact rfl) ?_
    refine s_call (by exact rfl) (by exact rfl) (fun w h => refRight_ok n v es w hs (ro_old h hr) (by omega)) ?_
    by_cases hR0 : rightK n es ≠ 0
    · repeat' first
        | refine k_then ?_
        | refine c_seq ?_
        | refine c_region ?_
        | refine s_nil ?_
        | refine s_pick_f (by exact rfl) (by exact rfl) (by exact rfl) ?_
        | (refine c_cond_p (by exact rfl) (fun h => ?_) (fun h => ?_) <;> try (exfalso; omega))
        | refine w_neq (by exact rfl) (by exact rfl) (by exact rfl) (by exact rfl) (by exact rfl) ?_
      refine s_call (vs := []) (by exact rfl) (by exact rfl) (fun w h => alive19_ok w) ?_
      repeat' first
        | refine k_then ?_
        | refine s_nil ?_
        | refine s_assign (by exact rfl) (by exact rfl) ?_
        | refine c_ret ?_
        | refine k_then_ret ?_
      refine ret1 [] rfl rfl (by exact rfl) ⟨rfl, rfl⟩
    have hR0 : rightK n es = 0 := by simpa using hR0
    have hR := right_iff.1 hR0
    rw [hR0]
    have hlo := hR.lo
    have hnd : ∀ u, (nearS (tn es) u).Nodup := fun u => (List.mergeSort_perm _ _).nodup_iff.2 (nb_nodup hR u)
    obtain ⟨o, lab, hL⟩ := lev_ex w hR
    obtain ⟨os, hLs0⟩ := Classical.axiomOfChoice (r := fun (i : Nat) (x : (Nat → Nat) × (Nat → Nat)) => Lev n.toNat (nb (tn (lessL [(i : Int)] es))) x.1 x.2) fun i => by
      obtain ⟨o, lab, h⟩ := lev_ex w (hR.sub (lessL_sub [(i : Int)] es))
      exact ⟨(o, lab), h⟩
    have hLs : ∀ i : Nat, Lev n.toNat (nb (tn (lessL [(i : Int)] es))) ((fun i => (os i).1) i) ((fun i => (os i).2) i) := hLs0
    repeat' first
      | refine k_then ?_
      | refine c_seq ?_
      | refine c_region ?_
      | refine s_nil ?_
      | refine s_pick_f (by exact rfl) (by exact rfl) (by exact rfl) ?_
      | refine s_ldk_box (by exact rfl) (by exact rfl) (by exact .head _) (by exact rfl) (by exact rfl) ?_
      | refine c_skip ?_
      | (refine c_cond_p (by exact rfl) (fun h => ?_) (fun h => ?_) <;> try (exfalso; omega))
      | refine w_neq (by exact rfl) (by exact rfl) (by exact rfl) (by exact rfl) (by exact rfl) ?_
    refine o_call (by exact rfl) (by exact rfl) (fun w h => Width_ok n v es w hs (ro_old h hr) hR) ?_
    rintro _ _ ⟨vw, T, hT, rfl, rfl⟩
    have hTl : widthL T ≤ 1 ∨ ((List.range es.length).filter fun i => decide ((compsS n.toNat lab).length < (compsS n.toNat ((os i).2)).length)).length ≠ es.length := by
      by_cases hall : ((List.range es.length).filter fun i => decide ((compsS n.toNat lab).length < (compsS n.toNat ((os i).2)).length)).length = es.length
      · refine .inl (widthL_le fun p hp => ?_)
        rw [hT] at hp
        refine forest_run hR hL hLs (fun i hi => ?_) n.toNat _ (WF.near hR hnd) (fun b m hm u => ?_) p hp
        · have h1 : ((List.range es.length).filter fun i => decide ((compsS n.toNat lab).length < (compsS n.toNat ((os i).2)).length)).length = (List.range es.length).length := by rw [hall, List.length_range]
          have h2 := List.length_filter_eq_length_iff.1 h1 i (by simpa using hi)
          simpa using h2
        · split at hm
          · obtain rfl : _ = m := by simpa using hm
            exact ⟨fun h => ⟨h, by rw [if_pos (nearS_lt hR h).1]; simp⟩, fun h => h.1⟩
          · simp at hm
      · exact .inr hall
    generalize hreg : Code.seq (Code.region 4 _ _) _ = cs
    repeat' first
      | refine k_then ?_
      | refine c_seq ?_
      | refine s_nil ?_
      | refine s_move (by exact rfl) (by exact rfl) ?_
      | refine s_assign (by exact rfl) (by exact rfl) ?_
      | refine s_extract (by exact rfl) (by exact rfl) (by exact rfl) ?_
    subst hreg
    refine c_join (X := Unit) (fun _ => [(1, .pointer (some ⟨b, 0, none⟩)), (2, .bool false), (5, .int .i64 0)]) (fun _ => [boxHP b 24 [.int .i64 n, v]]) (fun K hkK => ?_) (fun _ => ?_)
    · repeat' first
        | refine c_seq ?_
      refine p_begin0 [(0, true), (3, true), (4, true), (5, true), (1, false), (2, true), (6, true), (7, true), (8, true), (9, true), (10, true)] (by kernel_rfl) ?_
      repeat' first
        | (refine p_at (by exact rfl) ?_
           first
            | refine t_fa (by exact rfl) (by exact rfl) (by exact fun _ h => h) ?_
            | refine t_ld_box (by exact rfl) (by exact rfl) (by exact .tail _ (.head _)) (by exact rfl) (by exact fun _ h => h) ?_
            | refine t_len (by exact rfl) (by exact rfl) (by assumption) (by exact fun _ h => h) ?_
            | refine t_ldk_box (by exact rfl) (by exact rfl) (by exact .tail _ (.head _)) (by exact rfl) (by exact rfl) (by exact fun _ h => h) ?_)
      refine p_call' (vs := [.agg #[.int .i64 n, v]]) (by exact rfl) (by exact rfl) (by exact rfl) (fun w h => Bridges_ok n v es lab (fun i => (os i).2) o (fun i => (os i).1) w hs (ro_old h hr) hR hL hLs) ?_
      rintro vb _ ⟨out, hout, rfl⟩
      refine ⟨fun _ h => h.tl, ?_⟩
      refine know_rowP (v := vb) (.head _) fun hvb _ => ?_
      rw [← hout] at hTl
      repeat' first
        | refine p_nil ?_
        | (refine p_at (by exact rfl) ?_
           first
            | refine t_move (by exact rfl) (by exact rfl) (by exact fun _ h => h.tl) ?_
            | refine t_eql (by exact rfl) (by exact rfl) (by exact rfl) (by exact fun _ h => h.tl) ?_
            | refine t_len (by exact rfl) (by exact rfl) (by assumption) (by exact fun _ h => h.tl) ?_
            | refine t_pick_t (by exact rfl) (by exact rfl) (by exact rfl) (by exact fun _ h => h.tl) ?_
            | refine t_pick_f (by exact rfl) (by exact rfl) (by exact rfl) (by exact fun _ h => h.tl) ?_
            | refine tw_move (by exact rfl) (by exact rfl) (by exact rfl) (by exact rfl) (by exact fun _ h => h.tl) ?_
            | refine tw_gtr (by exact rfl) (by exact rfl) (by exact rfl) (by exact rfl) (by exact rfl) (by exact fun _ h => h.tl) ?_
            | (refine t_case (by exact rfl) (by exact rfl) (fun h => ?_) (fun h => ?_) <;> try (exfalso; omega))
            | refine t_skip (by exact rfl) (by exact rfl) (by exact rfl) (by exact rfl) (by exact fun _ h => h.tl) ?_)
      repeat' first
        | refine k_then ?_
        | refine c_skip ?_
        | (refine c_cond_p (by exact rfl) (fun h => ?_) (fun h => ?_) <;> try (exfalso; omega))
        | refine c_cond_f (by exact rfl) ?_
      · exact j_end hkK () [2] (by exact rfl) ⟨rfl, rfl, rfl, trivial⟩
      · exact j_end hkK () [2] (by exact rfl) ⟨rfl, rfl, rfl, trivial⟩
    repeat' first
      | refine c_seq ?_
      | refine c_region ?_
      | refine s_ldk_box (by exact rfl) (by exact rfl) (by exact .head _) (by exact rfl) (by exact rfl) ?_
    refine o_call (vs := [.agg #[.int .i64 n, v]]) (by exact rfl) (by exact rfl) (fun w h => Max_ok n v es w hs (ro_old h hr) hR (by omega)) ?_
    rintro _ _ ⟨vm, l, rfl, rfl, hasc, hM⟩
    have hll := hM.length
    refine know_row (v := vm) (.head _) fun hvm _ => ?_
    repeat' first
      | refine k_then ?_
      | refine c_seq ?_
      | refine c_region ?_
      | refine s_nil ?_
      | refine s_move (by exact rfl) (by exact rfl) ?_
      | refine s_assign (by exact rfl) (by exact rfl) ?_
      | refine s_extract (by exact rfl) (by exact rfl) (by exact rfl) ?_
      | refine s_ldk_box (by exact rfl) (by exact rfl) (by exact .tail _ (.head _)) (by exact rfl) (by exact rfl) ?_
    refine o_call (vs := [.agg #[.int .i64 n, v]]) (by exact rfl) (by exact rfl) (fun w h => refTwo_ok n v es o lab w hs (ro_old h hr) hR hL) ?_
    rintro _ _ ⟨vt, rfl, rfl⟩
    by_cases hc : ∀ e ∈ tn es, (rounds twoE (tn es) n.toNat (two0 n.toNat lab)).getD e.1 0 ≠ (rounds twoE (tn es) n.toNat (two0 n.toNat lab)).getD e.2 0
    · have hhalf := two_half hR hL hc hM
      rw [decide_eq_true hc]
      repeat' first
        | refine k_then ?_
        | refine c_seq ?_
        | refine c_region ?_
        | refine s_nil ?_
        | refine s_move (by exact rfl) (by exact rfl) ?_
        | refine s_assign (by exact rfl) (by exact rfl) ?_
        | refine s_eql (by exact rfl) (by exact rfl) (by exact rfl) ?_
        | refine s_extract (by exact rfl) (by exact rfl) (by exact rfl) ?_
        | refine s_pick_t (by exact rfl) (by exact rfl) (by exact rfl) ?_
        | (refine g_case (by exact rfl) (by exact rfl) (fun h => ?_) (fun h => ?_) <;> try (exfalso; omega))
        | refine w_move (by exact rfl) (by exact rfl) (by exact rfl) (by exact rfl) ?_
        | refine w_fa (by exact rfl) (by exact rfl) (by exact rfl) (by exact rfl) ?_
        | refine w_ld_box (by exact rfl) (by exact rfl) (by exact rfl) (by exact rfl) (by exact .tail _ (.head _)) (by exact rfl) ?_
        | refine w_geq (by exact rfl) (by exact rfl) (by exact rfl) (by exact rfl) (by exact rfl) ?_
        | refine w_eql (by exact rfl) (by exact rfl) (by exact rfl) (by exact rfl) (by exact rfl) ?_
        | refine w_mul (by exact rfl) (by exact rfl) (by exact rfl) (by exact rfl) (by exact rfl) (by omega) ?_
        | refine w_not (by exact rfl) (by exact rfl) (by exact rfl) (by exact rfl) ?_
        | refine w_len (by exact rfl) (by exact rfl) (by exact rfl) (by exact rfl) (by assumption) ?_
        | refine w_pick_f (by exact rfl) (by exact rfl) (by exact rfl) (by exact rfl) (by exact rfl) ?_
        | refine g_on (by exact rfl) (by exact rfl) ?_
      refine s_call (vs := []) (by exact rfl) (by exact rfl) (fun w h => alive19_ok w) ?_
      repeat' first
        | refine k_then ?_
        | refine s_nil ?_
        | refine s_assign (by exact rfl) (by exact rfl) ?_
        | refine s_pick_t (by exact rfl) (by exact rfl) (by exact rfl) ?_
        | refine c_ret ?_
      refine ret1 [] rfl rfl (by exact rfl) ⟨rfl, rfl⟩
    · rw [decide_eq_false hc]
      repeat' first
        | refine k_then ?_
        | refine c_seq ?_
        | refine c_region ?_
        | refine s_nil ?_
        | refine s_move (by exact rfl) (by exact rfl) ?_
        | refine s_assign (by exact rfl) (by exact rfl) ?_
        | refine s_eql (by exact rfl) (by exact rfl) (by exact rfl) ?_
        | refine s_extract (by exact rfl) (by exact rfl) (by exact rfl) ?_
        | refine s_pick_t (by exact rfl) (by exact rfl) (by exact rfl) ?_
        | (refine g_case (by exact rfl) (by exact rfl) (fun h => ?_) (fun h => ?_) <;> try (exfalso; omega))
        | refine g_skip (by exact rfl) (by exact rfl) (by exact rfl) (by exact rfl) ?_
        | refine w_move (by exact rfl) (by exact rfl) (by exact rfl) (by exact rfl) ?_
        | refine w_eql (by exact rfl) (by exact rfl) (by exact rfl) (by exact rfl) (by exact rfl) ?_
        | refine w_not (by exact rfl) (by exact rfl) (by exact rfl) (by exact rfl) ?_
        | refine w_pick_t (by exact rfl) (by exact rfl) (by exact rfl) (by exact rfl) (by exact rfl) ?_
        | refine g_on (by exact rfl) (by exact rfl) ?_
      refine s_call (vs := []) (by exact rfl) (by exact rfl) (fun w h => alive19_ok w) ?_
      repeat' first
        | refine k_then ?_
        | refine s_nil ?_
        | refine s_assign (by exact rfl) (by exact rfl) ?_
        | refine s_pick_t (by exact rfl) (by exact rfl) (by exact rfl) ?_
        | refine c_ret ?_
      refine ret1 [] rfl rfl (by exact rfl) ⟨rfl, rfl⟩
end Go.Proofs.Ytkekpgkacjpjnaa
end
