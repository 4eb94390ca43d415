/- The document's answer for levels: what may be asked; which vertices are kept. -/
import Derived.Test.YtkekpgkacjpjnaaRef18
import Derived.Test.YtkekpgkacjpjnaaPPieces
namespace Go.Proofs.Ytkekpgkacjpjnaa
open Go.RowKit Go.Sl Fil
set_option maxRecDepth 100000
set_option maxHeartbeats 8000000
set_option linter.unusedVariables false
set_option linter.unusedSimpArgs false
attribute [local irreducible] Code.wp wpList bodyPost wpQuiet Exit.then Exit.inBlock Post wpAnyH wpOp

/-- what stands against a shift -/
def askK (n : Int) (es : List E) (k s : Int) : Int := if rightK n es ≠ 0 then 1 else if k < 1 ∨ 8 < k ∨ s < 0 ∨ k < s then 11 else 0

theorem Asked_ok (n : Int) (v : Value) (es : List E) (k s : Int) (w : World) (hs : Shp v es.length) (hr : RO w No v (esV es)) (hm : es.length < 4611686018427387904) :
    Calls Try.prog 21 #[.agg #[.int .i64 n, v], .int .i64 k, .int .i64 s] w (Post w No (Just (.int .i64 (askK n es k s)))) := by
  refine enter0 (vs := [_, _, _]) Try.func21 rfl Try.ntmps21 rfl ?_
  repeat' first
    | refine k_then ?_
    | refine c_seq ?_
    | refine c_region ?_
    | refine s_nil ?_
    | refine s_assign (by exact rfl) (by exact rfl) ?_
    | refine s_ldk_box (by exact rfl) (by exact rfl) (by exact .head _) (by exact rfl) (by exact rfl) ?_
    | refine o_box (by exact rfl) (by exact rfl) (fun b => ?_)
  refine s_call (by exact rfl) (by exact rfl) (fun w h => refRight_ok n v es w hs (ro_old h hr) hm) ?_
  repeat' first
    | refine k_then ?_
    | refine c_seq ?_
    | refine c_region ?_
    | refine s_nil ?_
    | refine s_move (by exact rfl) (by exact rfl) ?_
    | refine s_assign (by exact rfl) (by exact rfl) ?_
    | refine s_lss (by exact rfl) (by exact rfl) (by exact rfl) ?_
    | refine s_neq (by exact rfl) (by exact rfl) (by exact rfl) ?_
    | refine s_pick_t (by exact rfl) (by exact rfl) (by exact rfl) ?_
    | refine s_pick_f (by exact rfl) (by exact rfl) (by exact rfl) ?_
    | refine c_skip ?_
    | refine c_ret ?_
    | refine k_then_ret ?_
    | (refine c_cond_p (by exact rfl) (fun h => ?_) (fun h => ?_) <;> try (exfalso; omega))
    | refine c_cond_t (by exact rfl) ?_
    | (refine g_case (by exact rfl) (by exact rfl) (fun h => ?_) (fun h => ?_) <;> try (exfalso; omega))
    | refine g_skip (by exact rfl) (by exact rfl) (by exact rfl) (by exact rfl) ?_
    | refine w_move (by exact rfl) (by exact rfl) (by exact rfl) (by exact rfl) ?_
    | refine w_lss (by exact rfl) (by exact rfl) (by exact rfl) (by exact rfl) (by exact rfl) ?_
    | refine w_gtr (by exact rfl) (by exact rfl) (by exact rfl) (by exact rfl) (by exact rfl) ?_
  all_goals refine ret1 [] rfl rfl rfl ⟨congrArg (Value.int .i64) ?_, rfl⟩
  all_goals
    simp only [askK]
    (repeat' split) <;> omega

theorem refKept_ok (n : Int) (v : Value) (es : List E) (k s : Int) (o lab : Nat → Nat) (w : World) (hs : Shp v es.length) (hr : RO w No v (esV es)) (hR : RightG n es) (hLev : Lev n.toNat (nb (tn es)) o lab) (hk : 1 ≤ k ∧ k ≤ 8 ∧ 0 ≤ s ∧ s ≤ k) :
    Calls Try.prog 22 #[.agg #[.int .i64 n, v], .int .i64 k, .int .i64 s] w (Post w No fun r L' => L' = [rowHP r 4 1 n.toNat (bV (keptL n.toNat k.toNat s.toNat o))]) := by
  have hlo := hR.lo
  have hhi := hR.hi
  refine enter0 (vs := [_, _, _]) Try.func22 rfl Try.ntmps22 rfl ?_
  repeat' first
    | refine k_then ?_
    | refine c_seq ?_
    | refine c_region ?_
    | refine s_nil ?_
    | refine s_assign (by exact rfl) (by exact rfl) ?_
    | refine s_ldk_box (by exact rfl) (by exact rfl) (by exact .head _) (by exact rfl) (by exact rfl) ?_
    | refine o_box (by exact rfl) (by exact rfl) (fun b => ?_)
  refine o_call (by exact rfl) (by exact rfl) (fun w h => refOf_ok n v es o lab w hs (ro_old h hr) hR hLev) ?_
  rintro vl _ rfl
  refine know_row (v := vl) (.head _) fun hvl _ => ?_
  repeat' first
    | refine k_then ?_
    | refine c_seq ?_
    | refine c_region ?_
    | refine s_nil ?_
    | refine s_assign (by exact rfl) (by exact rfl) ?_
    | refine s_fa (by exact rfl) (by exact rfl) ?_
    | refine s_ld_box (by exact rfl) (by exact rfl) (by exact .tail _ (.head _)) (by exact rfl) ?_
  refine o_make (by exact rfl) (by exact rfl) (by exact rfl) (by omega) (by omega) fun vk hvk => ?_
  rw [made1 (z := .bool false) rfl]
  repeat' first
    | refine k_then ?_
    | refine c_seq ?_
    | refine c_region ?_
    | refine s_nil ?_
    | refine s_assign (by exact rfl) (by exact rfl) ?_
    | refine c_block ?_
  have hlt := hLev.lt hR.good.adj
  generalize hN : n.toNat = N at *
  have hnN : n = (N : Int) := by omega
  subst hnN
  obtain ⟨k0, rfl⟩ : ∃ k0 : Nat, k = (k0 : Int) := ⟨k.toNat, by omega⟩
  obtain ⟨s0, rfl⟩ : ∃ s0 : Nat, s = (s0 : Int) := ⟨s.toNat, by omega⟩
  rw [Int.toNat_natCast, Int.toNat_natCast]
  let g : Nat → Bool := fun j => decide (o j % (k0 + 1) ≠ s0)
  refine c_loop (fun i : Nat => i ≤ N) (fun i => [(1, .int .i64 (k0 : Int)), (2, .int .i64 (s0 : Int)), (3, .pointer (some ⟨b, 0, none⟩)), (7, vl), (8, vk), (9, .int .i64 (i : Int))]) (fun i => [rowHP vk 4 1 N (bV (fillL g false N i)), rowHP vl 3 1 N (nV ((List.range N).map o)), boxHP b 24 [.int .i64 (N : Int), v]]) (fun i => N - i) 0 [0, 0, 0] (Nat.zero_le _) ?_ ⟨rfl, rfl, rfl, rfl, rfl, rfl, trivial⟩ ?_
  · rw [fill_zero]
    simp only [bV, List.map_replicate]
    rfl
  intro i hi
  by_cases hil : i < N
  · have hoi := nV_get (l := (List.range N).map o) (k := i) (by simpa using hil)
    rw [show ((List.range N).map o).getD i 0 = o i from by simp [hil]] at hoi
    have hli := hlt i hil
    repeat' first
      | refine k_then ?_
      | refine c_seq ?_
      | refine c_region ?_
      | refine s_nil ?_
      | refine s_move (by exact rfl) (by exact rfl) ?_
      | refine s_fa (by exact rfl) (by exact rfl) ?_
      | refine s_ld_box (by exact rfl) (by exact rfl) (by exact .tail _ (.tail _ (.head _))) (by exact rfl) ?_
      | refine s_lss (by exact rfl) (by exact rfl) (by exact rfl) ?_
      | refine s_neq (by exact rfl) (by exact rfl) (by exact rfl) ?_
      | refine s_add (by exact rfl) (by exact rfl) (by exact rfl) (by omega) ?_
      | refine s_rem (by exact rfl) (by exact rfl) (by exact rfl) (by omega) ?_
      | refine s_idx (by exact rfl) (by exact rfl) (by exact rfl) (by assumption) (by first | assumption | omega) ?_
      | refine s_ld_row (by exact rfl) (by exact rfl) (by exact .tail _ (.head _)) (by assumption) ?_
      | refine c_block ?_
      | refine c_skip ?_
      | (refine c_cond_p (by exact rfl) (fun h => ?_) (fun h => ?_) <;> try (exfalso; omega))
    refine o_st_row (i := 0) (by exact rfl) (by exact rfl) (by exact rfl) rfl (by omega) ?_
    repeat' first
      | refine k_then ?_
      | refine c_region ?_
      | refine s_nil ?_
      | refine s_move (by exact rfl) (by exact rfl) ?_
      | refine s_assign (by exact rfl) (by exact rfl) ?_
      | refine s_add (by exact rfl) (by exact rfl) (by exact rfl) (by omega) ?_
      | refine k_blk ?_
    refine c_round (i + 1) [0, 0, 0] ?_ (by exact ⟨rfl, rfl, rfl, rfl, rfl, rfl, trivial⟩) (by omega) (by omega)
    rw [← fill_set g false hil, ← bV_set]
    have e : decide (((o i : Nat) : Int) % ((k0 : Int) + 1) ≠ (s0 : Int)) = g i := by
      have e1 : ((o i : Nat) : Int) % ((k0 : Int) + 1) = ((o i % (k0 + 1) : Nat) : Int) := by
        rw [Int.natCast_emod]
        simp
      rw [e1]
      exact decide_eq_decide.2 (not_congr (by omega))
    rw [← e]
    rfl
  · repeat' first
      | refine k_then ?_
      | refine c_seq ?_
      | refine c_region ?_
      | refine s_nil ?_
      | refine s_move (by exact rfl) (by exact rfl) ?_
      | refine s_assign (by exact rfl) (by exact rfl) ?_
      | refine s_fa (by exact rfl) (by exact rfl) ?_
      | refine s_ld_box (by exact rfl) (by exact rfl) (by exact .tail _ (.tail _ (.head _))) (by exact rfl) ?_
      | refine s_lss (by exact rfl) (by exact rfl) (by exact rfl) ?_
      | refine c_exit ?_
      | refine c_ret ?_
      | refine k_then_exit ?_
      | refine k_blk_eq ?_
      | (refine c_cond_p (by exact rfl) (fun h => ?_) (fun h => ?_) <;> try (exfalso; omega))
    obtain rfl : i = N := by omega
    refine ret1 [0] rfl rfl rfl ?_
    rw [fillL_all]
    rfl
end Go.Proofs.Ytkekpgkacjpjnaa
