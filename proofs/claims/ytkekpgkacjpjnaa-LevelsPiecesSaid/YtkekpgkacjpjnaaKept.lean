/- Package levels: of a graph that is not right; which vertices are kept. -/
import Derived.Test.YtkekpgkacjpjnaaLev
import Derived.Test.YtkekpgkacjpjnaaPFill
namespace Go.Proofs.Ytkekpgkacjpjnaa
open Go.RowKit Go.Sl Fil
set_option maxRecDepth 100000
set_option maxHeartbeats 8000000
set_option linter.unusedVariables false
set_option linter.unusedSimpArgs false
attribute [local irreducible] Code.wp wpList bodyPost wpQuiet Exit.then Exit.inBlock Post wpAnyH wpOp

theorem levOf_no (n : Int) (v : Value) (es : List E) (w : World) (hs : Shp v es.length) (hr : RO w No v (esV es)) (hm : es.length < 4611686018427387904) (hR : rightK n es ≠ 0) :
    Calls Try.prog 15 #[.agg #[.int .i64 n, v]] w (Post w No (Just (.tuple #[.slice none 0 0, .int .i64 1]))) := by
  refine enter0 (vs := [_]) Try.func15 rfl Try.ntmps15 rfl ?_
  repeat' first
    | refine k_then ?_
    | refine c_seq ?_
    | refine c_region ?_
    | refine s_nil ?_
    | refine s_assign (by exact rfl) (by exact rfl) ?_
    | refine s_ldk_box (by exact rfl) (by exact rfl) (by exact .head _) (by exact rfl) (by exact rfl) ?_
    | refine o_box (by exact rfl) (by exact rfl) (fun b => ?_)
  refine s_call (by exact rfl) (by exact rfl) (fun w h => Right_ok n v es w hs (ro_old h hr) hm) ?_
  repeat' first
    | refine k_then ?_
    | refine c_seq ?_
    | refine c_region ?_
    | refine s_nil ?_
    | refine s_assign (by exact rfl) (by exact rfl) ?_
    | refine s_neq (by exact rfl) (by exact rfl) (by exact rfl) ?_
    | refine c_ret ?_
    | refine k_then_ret ?_
    | (refine c_cond_p (by exact rfl) (fun h => ?_) (fun h => ?_) <;> try (exfalso; omega))
  refine ret2 [] rfl rfl rfl rfl ⟨rfl, rfl⟩

theorem Kept_ok (n : Int) (v : Value) (es : List E) (k s : Int) (w : World) (hs : Shp v es.length) (hr : RO w No v (esV es)) (hR : RightG n es) (hk : 1 ≤ k ∧ k ≤ 8 ∧ 0 ≤ s ∧ s ≤ k) :
    Calls Try.prog 19 #[.agg #[.int .i64 n, v], .int .i64 k, .int .i64 s] w (Post w No fun r L' => ∃ (out : List Nat) (lab : Nat → Nat) (vo : Value), r = .tuple #[vo, .int .i64 0] ∧ L' = [rowHP vo 4 1 n.toNat (bV (out.map fun x => decide ((x + k.toNat + 1 - s.toNat) % (k.toNat + 1) ≠ 0)))] ∧ out.length = n.toNat ∧ Lev n.toNat (nearS (tn es)) (fun v => out.getD v 0) lab) := by
  have hlo := hR.lo
  have hhi := hR.hi
  refine enter0 (vs := [_, _, _]) Try.func19 rfl Try.ntmps19 rfl ?_
  repeat' first
    | refine k_then ?_
    | refine c_seq ?_
    | refine c_region ?_
    | refine s_nil ?_
    | refine s_assign (by exact rfl) (by exact rfl) ?_
    | refine s_ldk_box (by exact rfl) (by exact rfl) (by exact .head _) (by exact rfl) (by exact rfl) ?_
    | refine o_box (by exact rfl) (by exact rfl) (fun b => ?_)
  refine o_call (by exact rfl) (by exact rfl) (fun w h => levOf_ok n v es w hs (ro_old h hr) hR) ?_
  rintro _ _ ⟨out, lab, vl, rfl, rfl, hol, hLev⟩
  refine know_row (v := vl) (.head _) fun hvl _ => ?_
  repeat' first
    | refine k_then ?_
    | refine c_seq ?_
    | refine c_region ?_
    | refine s_nil ?_
    | refine s_move (by exact rfl) (by exact rfl) ?_
    | refine s_assign (by exact rfl) (by exact rfl) ?_
    | refine s_fa (by exact rfl) (by exact rfl) ?_
    | refine s_ld_box (by exact rfl) (by exact rfl) (by exact .tail _ (.head _)) (by exact rfl) ?_
    | refine s_lss (by exact rfl) (by exact rfl) (by exact rfl) ?_
    | refine s_gtr (by exact rfl) (by exact rfl) (by exact rfl) ?_
    | refine s_neq (by exact rfl) (by exact rfl) (by exact rfl) ?_
    | refine s_extract (by exact rfl) (by exact rfl) (by exact rfl) ?_
    | refine c_block ?_
    | refine c_skip ?_
    | refine k_blk ?_
    | (refine c_cond_p (by exact rfl) (fun h => ?_) (fun h => ?_) <;> try (exfalso; omega))
  refine o_make (by exact rfl) (by exact rfl) (by exact rfl) (by omega) (by omega) fun vk hvk => ?_
  rw [made1 (z := .bool false) rfl]
  repeat' first
    | refine k_then ?_
    | refine c_seq ?_
    | refine c_region ?_
    | refine s_nil ?_
    | refine s_move (by exact rfl) (by exact rfl) ?_
    | refine s_assign (by exact rfl) (by exact rfl) ?_
    | refine s_len (by exact rfl) (by exact rfl) (by assumption) ?_
    | refine c_block ?_
  have hlt := hLev.lt hR.good.adjS
  generalize hN : n.toNat = N at *
  have hnN : n = (N : Int) := by omega
  subst hnN
  obtain ⟨k0, rfl⟩ : ∃ k0 : Nat, k = (k0 : Int) := ⟨k.toNat, by omega⟩
  obtain ⟨s0, rfl⟩ : ∃ s0 : Nat, s = (s0 : Int) := ⟨s.toNat, by omega⟩
  rw [Int.toNat_natCast, Int.toNat_natCast]
  let g : Nat → Bool := fun j => decide ((out.getD j 0 + k0 + 1 - s0) % (k0 + 1) ≠ 0)
  refine c_loop (fun i : Nat => i ≤ N) (fun i => [(1, .int .i64 (k0 : Int)), (2, .int .i64 (s0 : Int)), (10, vk), (35, vl), (36, .int .i64 (N : Int)), (37, .int .i64 (i : Int))]) (fun i => [rowHP vk 4 1 N (bV (fillL g false N i)), rowHP vl 3 1 N (nV out)]) (fun i => N - i) 0 [0, 0] (Nat.zero_le _) ?_ ⟨rfl, rfl, rfl, rfl, rfl, rfl, trivial⟩ ?_
  · rw [fill_zero]
    simp only [bV, List.map_replicate]
    rfl
  intro i hi
  by_cases hil : i < N
  · have hoi := nV_get (l := out) (k := i) (by omega)
    have hli := hlt i hil
    generalize hx : out.getD i 0 = x at *
    repeat' first
      | refine k_then ?_
      | refine c_seq ?_
      | refine c_region ?_
      | refine s_nil ?_
      | refine s_move (by exact rfl) (by exact rfl) ?_
      | refine s_assign (by exact rfl) (by exact rfl) ?_
      | refine s_lss (by exact rfl) (by exact rfl) (by exact rfl) ?_
      | refine s_neq (by exact rfl) (by exact rfl) (by exact rfl) ?_
      | refine s_add (by exact rfl) (by exact rfl) (by exact rfl) (by omega) ?_
      | refine s_sub (by exact rfl) (by exact rfl) (by exact rfl) (by omega) ?_
      | refine s_rem (by exact rfl) (by exact rfl) (by exact rfl) (by omega) ?_
      | refine s_idx (by exact rfl) (by exact rfl) (by exact rfl) (by assumption) (by first | assumption | omega) ?_
      | refine s_ld_row (by exact rfl) (by exact rfl) (by exact .tail _ (.head _)) (by assumption) ?_
      | refine c_block ?_
      | refine c_skip ?_
      | (refine c_cond_p (by exact rfl) (fun h => ?_) (fun h => ?_) <;> try (exfalso; omega))
    refine o_st_row (i := 0) (by exact rfl) (by exact rfl) (by exact rfl) rfl (by omega) ?_
    repeat' first
      | refine k_then ?_
      | refine c_region ?_
      | refine s_nil ?_
      | refine s_move (by exact rfl) (by exact rfl) ?_
      | refine s_add (by exact rfl) (by exact rfl) (by exact rfl) (by omega) ?_
      | refine k_blk ?_
    refine c_round (i + 1) [0, 0] ?_ (by exact ⟨rfl, rfl, rfl, rfl, rfl, rfl, trivial⟩) (by omega) (by omega)
    rw [← fill_set g false hil, ← bV_set]
    have e : decide (((x : Int) + (k0 : Int) + 1 - (s0 : Int)) % ((k0 : Int) + 1) ≠ 0) = g i := by
      simp only [g, hx]
      have e1 : ((x : Int) + (k0 : Int) + 1 - (s0 : Int)) % ((k0 : Int) + 1) = (((x + k0 + 1 - s0) % (k0 + 1) : Nat) : Int) := by
        rw [Int.natCast_emod, Int.natCast_sub (by omega)]
        simp
      rw [e1]
      exact decide_eq_decide.2 (not_congr Int.natCast_eq_zero)
    rw [← e]
    rfl
  · repeat' first
      | refine k_then ?_
      | refine c_seq ?_
      | refine c_region ?_
      | refine s_nil ?_
      | refine s_move (by exact rfl) (by exact rfl) ?_
      | refine s_assign (by exact rfl) (by exact rfl) ?_
      | refine s_lss (by exact rfl) (by exact rfl) (by exact rfl) ?_
      | refine c_exit ?_
      | refine c_ret ?_
      | refine k_then_exit ?_
      | refine k_blk_eq ?_
      | (refine c_cond_p (by exact rfl) (fun h => ?_) (fun h => ?_) <;> try (exfalso; omega))
    obtain rfl : i = N := by omega
    refine ret2 [0] rfl rfl rfl rfl ⟨out, lab, vk, rfl, ?_, hol, hLev⟩
    rw [fillL_all, ← hol, map_getD (f := fun x => decide ((x + k0 + 1 - s0) % (k0 + 1) ≠ 0))]
end Go.Proofs.Ytkekpgkacjpjnaa
