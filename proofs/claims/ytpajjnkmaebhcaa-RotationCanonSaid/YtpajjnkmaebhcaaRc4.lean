/- Of RotationCanon: part 4: what the walks rest on, contracts of functions and plain lemmas; no condition but those that each states. -/
import Derived.Test.YtpajjnkmaebhcaaRc3
import Derived.Shelf.Spec.SlicesGrow
import Derived.ProofKit
import Derived.Deep.Slices
import Derived.Deep.Strs
import Derived.Lib.SmallJoins
import Derived.ChangeSlices
import Derived.SizedLaws
set_option linter.unusedVariables false
set_option linter.unusedSimpArgs false
section
set_option linter.unusedVariables false
namespace Fil
/-- k pairs swapped, from both ends -/
def revK (l : List Int) (k : Nat) : List Int := (List.range l.length).map fun t => if t < k ∨ l.length - 1 - t < k then l.getD (l.length - 1 - t) 0 else l.getD t 0
theorem revK_length (l : List Int) (k : Nat) : (revK l k).length = l.length := by simp [revK]
theorem revK_get {l : List Int} {k t : Nat} (ht : t < l.length) : (revK l k).getD t 0 = if t < k ∨ l.length - 1 - t < k then l.getD (l.length - 1 - t) 0 else l.getD t 0 := by
  rw [revK, List.getD_eq_getElem?_getD, List.getElem?_map, List.getElem?_range ht]; rfl
theorem list_getD_ext {a b : List Int} (hl : a.length = b.length) (h : ∀ t, t < a.length → a.getD t 0 = b.getD t 0) : a = b := by
  apply List.ext_getElem hl
  intro t h1 h2
  have := h t h1
  rwa [List.getD_eq_getElem?_getD, List.getD_eq_getElem?_getD, List.getElem?_eq_getElem h1, List.getElem?_eq_getElem h2] at this
theorem revK_zero (l : List Int) : revK l 0 = l := list_getD_ext (revK_length l 0) fun t ht => by
  rw [revK_length] at ht
  rw [revK_get ht, if_neg (by omega)]
theorem getD_setI (l : List Int) (i : Nat) (x : Int) (j : Nat) : (l.set i x).getD j 0 = if i = j ∧ i < l.length then x else l.getD j 0 := by
  rw [List.getD_eq_getElem?_getD, List.getElem?_set, List.getD_eq_getElem?_getD]
  by_cases h : i = j
  · subst h
    rw [if_pos rfl]
    by_cases h2 : i < l.length
    · rw [if_pos h2, if_pos ⟨rfl, h2⟩]; rfl
    · rw [if_neg h2, if_neg (fun h => h2 h.2), List.getElem?_eq_none (by omega)]
  · rw [if_neg h, if_neg (fun h' => h h'.1)]
theorem revK_step {l : List Int} {k : Nat} (hk : k < l.length - 1 - k) : ((revK l k).set k ((revK l k).getD (l.length - 1 - k) 0)).set (l.length - 1 - k) ((revK l k).getD k 0) = revK l (k + 1) := list_getD_ext (by simp [revK_length]) fun t ht => by
  simp only [List.length_set, revK_length] at ht
  rw [getD_setI, getD_setI, List.length_set, revK_length, revK_get (by omega), revK_get (by omega), revK_get ht, revK_get ht]
  by_cases h1 : l.length - 1 - k = t
  · rw [if_pos ⟨h1, by omega⟩, if_neg (by omega), if_pos (by omega)]
    congr 1; omega
  · rw [if_neg (fun h => h1 h.1)]
    by_cases h2 : k = t
    · subst h2
      rw [if_pos ⟨rfl, by omega⟩, if_neg (by omega), if_pos (by omega)]
    · rw [if_neg (fun h => h2 h.1)]
      by_cases h3 : t < k ∨ l.length - 1 - t < k
      · rw [if_pos h3, if_pos (by omega)]
      · rw [if_neg h3, if_neg (by omega)]
theorem revK_all {l : List Int} {k : Nat} (hk : l.length ≤ 2 * k + 1) : revK l k = l.reverse := list_getD_ext (by simp [revK_length]) fun t ht => by
  rw [revK_length] at ht
  rw [revK_get ht, List.getD_eq_getElem?_getD (l := l.reverse), List.getElem?_reverse ht, ← List.getD_eq_getElem?_getD]
  by_cases h : t < k ∨ l.length - 1 - t < k
  · rw [if_pos h]
  · rw [if_neg h]
    congr 1; omega
end Fil
namespace Fil
/-- the first k rows, from behind -/
def mirK (ls : List (List Int)) (k : Nat) : List (List Int) := (ls.take k).map List.reverse ++ List.replicate (ls.length - k) []
theorem mirK_zero (ls : List (List Int)) : mirK ls 0 = List.replicate ls.length [] := by simp [mirK]
theorem mirK_all (ls : List (List Int)) : mirK ls ls.length = ls.map List.reverse := by simp [mirK]
theorem mirK_length {ls : List (List Int)} {k : Nat} (h : k ≤ ls.length) : (mirK ls k).length = ls.length := by simp [mirK]; omega
theorem mirK_at {ls : List (List Int)} {k : Nat} (h : k < ls.length) : (mirK ls k)[k]? = some [] := by
  rw [mirK, List.getElem?_append_right (by simp; omega)]
  simp
  rw [List.getElem?_replicate, if_pos (by omega)]
theorem mirK_set {ls : List (List Int)} {k : Nat} {l : List Int} (h : ls[k]? = some l) : (mirK ls k).set k l.reverse = mirK ls (k + 1) := by
  have hk := (List.getElem?_eq_some_iff.1 h).1
  have e1 : ls.length - k = (ls.length - (k + 1)) + 1 := by omega
  rw [mirK, mirK, e1, List.replicate_succ, List.set_append_right _ _ (by simp; omega), List.take_add_one, h]
  simp only [List.length_map, List.length_take, Option.toList_some, List.map_append, List.map_cons, List.map_nil, List.append_assoc]
  rw [show k - min k ls.length = 0 by omega]
  rfl
end Fil
namespace Go.Sl
open Go Go.RowKit Fil
def rowI (h : Value) (l : List Int) : HP := rowHP h 3 1 l.length (iV l)
end Go.Sl
namespace Go.Proofs.Ytpajjnkmaebhcaa
open Go Go.RowKit Go.Sl Fil
set_option maxRecDepth 100000
set_option maxHeartbeats 8000000
set_option linter.unusedVariables false
set_option linter.unusedSimpArgs false
attribute [local irreducible] Code.wp wpList bodyPost wpQuiet Exit.then Exit.inBlock Post wpAnyH wpOp
theorem Reverse_ok (v : Value) (l : List Int) (w : World) (S : FS) (hsat : sats [rowHP v 3 1 l.length (iV l)] S w) :
    Calls Try.prog 59 #[v] w (Post w S fun r L' => r = .tuple #[] ∧ L' = [rowHP v 3 1 l.length (iV l.reverse)]) := by
  refine enter (vs := [_]) Try.func59 rfl Try.ntmps59 rfl hsat ?_
  refine know_row (v := v) (.head _) fun hv _ => ?_
  have hm := hv.1
  simp only [maxLen] at hm
  repeat' first
    | refine k_then ?_
    | refine c_seq ?_
    | refine c_region ?_
    | refine s_nil ?_
    | refine s_move (by exact rfl) (by exact rfl) ?_
    | refine s_assign (by exact rfl) (by exact rfl) ?_
    | refine s_sub (by exact rfl) (by exact rfl) (by exact rfl) (by omega) ?_
    | refine s_len (by exact rfl) (by exact rfl) (by assumption) ?_
    | refine c_block ?_
    | fail
  refine c_loop (fun k : Nat => 2 * k ≤ l.length) (fun k => [(0, v), (2, .int .i64 (k : Int)), (3, .int .i64 ((l.length : Int) - 1 - (k : Int)))]) (fun k => [rowHP v 3 1 l.length (iV (revK l k))]) (fun k => l.length - k) 0 [0] (Nat.zero_le _) (by rw [revK_zero]; exact rfl) (by rw [show (l.length : Int) - 1 - ((0 : Nat) : Int) = (l.length : Int) - 1 by omega]; exact ⟨rfl, rfl, rfl, trivial⟩) ?_
  rintro k hk
  by_cases hlt : k < l.length - 1 - k
  · have hrl := revK_length l k
    have e1 : (l.length : Int) - 1 - (k : Int) = ((l.length - 1 - k : Nat) : Int) := by omega
    rw [e1]
    have hst := revK_step hlt
    generalize hj : l.length - 1 - k = j at *
    have g1 := iV_get (l := revK l k) (k := k) (by omega)
    have g2 := iV_get (l := revK l k) (k := j) (by omega)
    repeat' first
      | refine k_then ?_
      | refine c_seq ?_
      | refine c_region ?_
      | refine s_nil ?_
      | refine s_move (by exact rfl) (by exact rfl) ?_
      | refine s_lss (by exact rfl) (by exact rfl) (by exact rfl) ?_
      | refine c_block ?_
      | refine c_skip ?_
      | (refine c_cond_p (by exact rfl) (fun h => ?_) (fun h => ?_) <;> try (exfalso; omega))
      | fail
    refine p_begin [(0, true), (1, true), (2, true), (3, true), (4, true), (5, true), (6, true), (8, true), (9, true), (10, true), .rd 7 11, (12, true), (13, false), (14, true), (15, false)] [] (by kernel_rfl) ?_
    repeat' first
      | (refine p_at (by exact rfl) ?_
         first
          | refine t_move (by exact rfl) (by exact rfl) (by exact fun _ h => h.tl) ?_
          | refine t_idx (by exact rfl) (by exact rfl) (by exact rfl) (by assumption) (by first | assumption | omega) (by exact fun _ h => h.tl) ?_
          | fail)
      | fail
    refine p_rd ?_ ?_
    all_goals
      repeat' first
        | (refine p_at (by exact rfl) ?_
           first
            | refine t_idx (by exact rfl) (by exact rfl) (by exact rfl) (by assumption) (by first | assumption | omega) (by exact fun _ h => h.tl) ?_
            | refine r_ld_row (by exact rfl) (by exact rfl) (by exact .head _) (by assumption) (by exact fun _ h => h.tl) ?_
            | fail)
        | fail
      refine p_st_row (j := 0) (by exact rfl) (by exact rfl) (by exact rfl) (by exact rfl) rfl (by omega) (fun w h => h.pick [] (by exact rfl)) ?_
      repeat' first
        | (refine p_at (by exact rfl) ?_
           first
            | refine t_idx (by exact rfl) (by exact rfl) (by exact rfl) (by assumption) (by first | assumption | omega) (by exact fun _ h => h.tl) ?_
            | fail)
        | fail
      refine p_st_row (j := 0) (by exact rfl) (by exact rfl) (by exact rfl) (by exact rfl) rfl (by omega) (fun w h => h.pick [] (by exact rfl)) ?_
      repeat' first
        | refine p_nil ?_
        | fail
      repeat' first
        | refine k_then ?_
        | refine c_region ?_
        | refine s_nil ?_
        | refine s_move (by exact rfl) (by exact rfl) ?_
        | refine s_assign (by exact rfl) (by exact rfl) ?_
        | refine s_add (by exact rfl) (by exact rfl) (by exact rfl) (by omega) ?_
        | refine s_sub (by exact rfl) (by exact rfl) (by exact rfl) (by omega) ?_
        | refine k_blk ?_
        | fail
      refine c_round (k + 1) [0] ?_ (by rw [show (l.length : Int) - 1 - ((k + 1 : Nat) : Int) = (j : Int) - 1 by omega]; exact ⟨rfl, rfl, rfl, trivial⟩) (by omega) (by omega)
      rw [iV_set, iV_set, hst]
      exact rfl
  · repeat' first
      | refine k_then ?_
      | refine c_seq ?_
      | refine c_region ?_
      | refine s_nil ?_
      | refine s_move (by exact rfl) (by exact rfl) ?_
      | refine s_lss (by exact rfl) (by exact rfl) (by exact rfl) ?_
      | refine c_exit ?_
      | refine k_then_exit ?_
      | refine k_blk_eq ?_
      | (refine c_cond_p (by exact rfl) (fun h => ?_) (fun h => ?_) <;> try (exfalso; omega))
      | fail
    refine ret0 [0] rfl (by exact rfl) ⟨rfl, ?_⟩
    rw [revK_all (by omega)]
theorem rotMirror_ok (vr : Value) (hr0 : List Value) (ls : List (List Int)) (w : World) (hR : ROsI w No vr hr0 ls) (hN : ls.length ≤ 1048576) (hle : ∀ l ∈ ls, l.length ≤ 1048576) :
    Calls Try.prog 29 #[vr] w (Post w No fun r L' => ∃ ho : List Value, ho.length = ls.length ∧ L' = [rowHP r 36 1 ls.length ho, starHP (kids rowI ho (ls.map List.reverse))]) := by
  have hsr := hR.shp
  have hrr := hR.ro
  refine enter0 (vs := [_]) Try.func29 rfl Try.ntmps29 rfl ?_
  repeat' first
    | refine k_then ?_
    | refine c_seq ?_
    | refine c_region ?_
    | refine s_nil ?_
    | refine s_move (by exact rfl) (by exact rfl) ?_
    | refine s_assign (by exact rfl) (by exact rfl) ?_
    | refine s_len (by exact rfl) (by exact rfl) (by assumption) ?_
    | fail
  refine o_make (by exact rfl) (by exact rfl) (by exact rfl) (by omega) (by omega) fun vo hvo => ?_
  repeat' first
    | refine k_then ?_
    | refine c_seq ?_
    | refine c_region ?_
    | refine s_nil ?_
    | refine s_move (by exact rfl) (by exact rfl) ?_
    | refine s_assign (by exact rfl) (by exact rfl) ?_
    | refine s_len (by exact rfl) (by exact rfl) (by assumption) ?_
    | refine c_block ?_
    | fail
  refine c_nils 3 1 ls.length ?_
  refine c_loop (fun x : Nat × List Value => x.1 ≤ ls.length ∧ x.2.length = ls.length) (fun x => [(3, vo), (9, vr), (10, .int .i64 (ls.length : Int)), (11, .int .i64 (x.1 : Int))])
    (fun x => [rowHP vo 36 1 ls.length x.2, starHP (kids rowI x.2 (mirK ls x.1))]) (fun x => ls.length - x.1) (0, List.replicate ls.length (.slice none 0 0)) [1, 0] ⟨Nat.zero_le _, by simp⟩ ?_ ⟨rfl, rfl, rfl, rfl, trivial⟩ ?_
  · have z1 : (madeCells (Value.slice none 0 0).cells ((ls.length : Int).toNat * 1)).toList = List.replicate ls.length (.slice none 0 0) := by rw [made1 rfl]; rfl
    rw [z1, mirK_zero, kids_nils]
    exact rfl
  rintro ⟨k, ho⟩ ⟨hk, hol⟩
  dsimp only at hk hol ⊢
  by_cases hlt : k < ls.length
  · obtain ⟨hx, hhx⟩ : ∃ x, hr0[k]? = some x := ⟨_, List.getElem?_eq_getElem (by have := hR.len; omega)⟩
    obtain ⟨l, hl⟩ : ∃ l, ls[k]? = some l := ⟨_, List.getElem?_eq_getElem hlt⟩
    obtain ⟨hsx, hrx⟩ := hR.kid k hx l hhx hl
    have h1' : hr0[k * 1]? = some hx := by rw [Nat.mul_one]; exact hhx
    repeat' first
      | refine k_then ?_
      | refine c_seq ?_
      | refine c_region ?_
      | refine s_nil ?_
      | refine s_move (by exact rfl) (by exact rfl) ?_
      | refine s_assign (by exact rfl) (by exact rfl) ?_
      | refine s_lss (by exact rfl) (by exact rfl) (by exact rfl) ?_
      | refine s_idx (by exact rfl) (by exact rfl) (by exact rfl) (by assumption) (by first | assumption | omega) ?_
      | refine s_ld_ro (by exact rfl) (by exact rfl) (by assumption) (by assumption) ?_
      | refine c_block ?_
      | refine c_skip ?_
      | (refine c_cond_p (by exact rfl) (fun h => ?_) (fun h => ?_) <;> try (exfalso; omega))
      | fail
    refine o_call (by exact rfl) (by exact rfl) (fun w h => CloneI_ok hx l w hsx (ro_old h hrx) (hle l (List.mem_of_getElem? hl))) ?_
    rintro vk _ rfl
    refine know_row (v := vk) (.head _) fun hvk _ => ?_
    repeat' first
      | refine s_idx (by exact rfl) (by exact rfl) (by exact rfl) (by assumption) (by first | assumption | omega) ?_
      | fail
    refine o_st_row (i := 1) (by exact rfl) (by exact rfl) (by exact rfl) hvk.one (by omega) ?_
    have hat : (ho.set (k * 1) vk)[k * 1]? = some vk := by rw [Nat.mul_one, List.getElem?_set, if_pos rfl, if_pos (by omega)]
    repeat' first
      | refine k_then ?_
      | refine c_region ?_
      | refine s_nil ?_
      | refine s_move (by exact rfl) (by exact rfl) ?_
      | refine s_idx (by exact rfl) (by exact rfl) (by exact rfl) (by assumption) (by first | assumption | omega) ?_
      | refine s_ld_row (by exact rfl) (by exact rfl) (by exact .tail _ (.head _)) (by assumption) ?_
      | fail
    refine s_lend [rowHP vk 3 1 l.length (iV l)] _ (by exact rfl) (by exact rfl) (by exact rfl) (fun w S h => Reverse_ok vk l w S h.own) ?_
    rintro _ _ ⟨rfl, rfl⟩
    repeat' first
      | refine k_then ?_
      | refine c_region ?_
      | refine s_nil ?_
      | refine s_move (by exact rfl) (by exact rfl) ?_
      | refine s_add (by exact rfl) (by exact rfl) (by exact rfl) (by omega) ?_
      | refine k_blk ?_
      | fail
    refine c_give 1 k (by exact rfl) (by rw [kids_length (by rw [mirK_length hk]; exact hol), mirK_length hk]; exact hlt) ?_
    refine c_round (k + 1, ho.set k vk) [0, 0] ?_ ⟨rfl, rfl, rfl, rfl, trivial⟩ ⟨by dsimp only; omega, by dsimp only; rw [List.length_set]; exact hol⟩ (by dsimp only; omega)
    dsimp only
    rw [Nat.mul_one, ← mirK_set hl, ← kids_put, show rowI vk l.reverse = rowHP vk 3 1 l.length (iV l.reverse) from by rw [rowI, List.length_reverse]]
    exact rfl
  · repeat' first
      | refine k_then ?_
      | refine c_seq ?_
      | refine c_region ?_
      | refine s_nil ?_
      | refine s_move (by exact rfl) (by exact rfl) ?_
      | refine s_assign (by exact rfl) (by exact rfl) ?_
      | refine s_lss (by exact rfl) (by exact rfl) (by exact rfl) ?_
      | refine c_exit ?_
      | refine c_ret ?_
      | refine k_then_exit ?_
      | refine k_blk_eq ?_
      | (refine c_cond_p (by exact rfl) (fun h => ?_) (fun h => ?_) <;> try (exfalso; omega))
      | fail
    obtain rfl : k = ls.length := by omega
    refine ret1 [0, 0] rfl rfl rfl ⟨ho, hol, ?_⟩
    rw [mirK_all]
/-- the first j of a list, from behind -/
theorem refMirror_ok (vr : Value) (hr0 : List Value) (ls : List (List Int)) (w : World) (hR : ROsI w No vr hr0 ls) (hN : ls.length ≤ 1048576) (hle : ∀ l ∈ ls, l.length ≤ 1048576) :
    Calls Try.prog 40 #[vr] w (Post w No fun r L' => ∃ ho : List Value, ho.length = ls.length ∧ L' = [rowHP r 36 1 ls.length ho, starHP (kids rowI ho (ls.map List.reverse))]) := by
  have hsr := hR.shp
  have hrr := hR.ro
  refine enter0 (vs := [_]) Try.func40 rfl Try.ntmps40 rfl ?_
  repeat' first
    | refine k_then ?_
    | refine c_seq ?_
    | refine c_region ?_
    | refine s_nil ?_
    | refine s_move (by exact rfl) (by exact rfl) ?_
    | refine s_assign (by exact rfl) (by exact rfl) ?_
    | refine s_len (by exact rfl) (by exact rfl) (by assumption) ?_
    | fail
  refine o_make (by exact rfl) (by exact rfl) (by exact rfl) (by omega) (by omega) fun vo hvo => ?_
  repeat' first
    | refine k_then ?_
    | refine c_seq ?_
    | refine c_region ?_
    | refine s_nil ?_
    | refine s_assign (by exact rfl) (by exact rfl) ?_
    | refine c_block ?_
    | fail
  refine c_nils 3 1 ls.length ?_
  refine c_loop (fun x : Nat × List Value => x.1 ≤ ls.length ∧ x.2.length = ls.length) (fun x => [(0, vr), (3, vo), (4, .int .i64 (x.1 : Int))])
    (fun x => [rowHP vo 36 1 ls.length x.2, starHP (kids rowI x.2 (mirK ls x.1))]) (fun x => ls.length - x.1) (0, List.replicate ls.length (.slice none 0 0)) [1, 0] ⟨Nat.zero_le _, by simp⟩ ?_ ⟨rfl, rfl, rfl, trivial⟩ ?_
  · have z1 : (madeCells (Value.slice none 0 0).cells ((ls.length : Int).toNat * 1)).toList = List.replicate ls.length (.slice none 0 0) := by rw [made1 rfl]; rfl
    rw [z1, mirK_zero, kids_nils]
    exact rfl
  rintro ⟨k, ho⟩ ⟨hk, hol⟩
  dsimp only at hk hol ⊢
  by_cases hlt : k < ls.length
  · obtain ⟨hx, hhx⟩ : ∃ x, hr0[k]? = some x := ⟨_, List.getElem?_eq_getElem (by have := hR.len; omega)⟩
    obtain ⟨l, hl⟩ : ∃ l, ls[k]? = some l := ⟨_, List.getElem?_eq_getElem hlt⟩
    obtain ⟨hsx, hrx⟩ := hR.kid k hx l hhx hl
    have h1' : hr0[k * 1]? = some hx := by rw [Nat.mul_one]; exact hhx
    have hml := mirK_length hk
    have hlm := hle l (List.mem_of_getElem? hl)
    repeat' first
      | refine k_then ?_
      | refine c_seq ?_
      | refine c_region ?_
      | refine s_nil ?_
      | refine s_move (by exact rfl) (by exact rfl) ?_
      | refine s_assign (by exact rfl) (by exact rfl) ?_
      | refine s_lss (by exact rfl) (by exact rfl) (by exact rfl) ?_
      | refine s_sub (by exact rfl) (by exact rfl) (by exact rfl) (by omega) ?_
      | refine s_len (by exact rfl) (by exact rfl) (by assumption) ?_
      | refine s_idx (by exact rfl) (by exact rfl) (by exact rfl) (by assumption) (by first | assumption | omega) ?_
      | refine s_ld_ro (by exact rfl) (by exact rfl) (by assumption) (by assumption) ?_
      | refine c_block ?_
      | refine c_skip ?_
      | (refine c_cond_p (by exact rfl) (fun h => ?_) (fun h => ?_) <;> try (exfalso; omega))
      | fail
    refine c_loop (fun x : Nat × List Value => x.1 ≤ l.length ∧ x.2.length = ls.length) (fun x => [(0, vr), (3, vo), (4, .int .i64 (k : Int)), (5, .int .i64 ((l.length : Int) - 1 - (x.1 : Int)))])
      (fun x => [rowHP vo 36 1 ls.length x.2, starHP (kids rowI x.2 ((mirK ls k).set k (l.reverse.take x.1)))]) (fun x => l.length - x.1) (0, ho) [0, 0] ⟨Nat.zero_le _, hol⟩ ?_ (by rw [show (l.length : Int) - 1 - ((0 : Nat) : Int) = (l.length : Int) - 1 by omega]; exact ⟨rfl, rfl, rfl, rfl, trivial⟩) ?_
    · rw [List.take_zero, show (mirK ls k).set k [] = mirK ls k from List.ext_getElem? fun j => by
        rw [List.getElem?_set]
        by_cases e : k = j
        · subst e
          rw [if_pos rfl, if_pos (by rw [hml]; exact hlt), mirK_at hlt]
        · rw [if_neg e]]
      exact rfl
    rintro ⟨j, hj⟩ ⟨hjl, hjo⟩
    dsimp only at hjl hjo ⊢
    by_cases hjk : j < l.length
    · have g1 := iV_get (l := l) (k := l.length - 1 - j) (by omega)
      have e1 : (l.length : Int) - 1 - (j : Int) = ((l.length - 1 - j : Nat) : Int) := by omega
      have htk : l.reverse.take (j + 1) = l.reverse.take j ++ [l.getD (l.length - 1 - j) 0] := by
        rw [List.take_add_one, List.getElem?_reverse hjk, List.getD_eq_getElem?_getD, List.getElem?_eq_getElem (by omega)]; rfl
      have hln : (l.reverse.take j).length = j := by rw [List.length_take, List.length_reverse]; omega
      obtain ⟨hd, hhd⟩ : ∃ hd, hj[k * 1]? = some hd := ⟨_, List.getElem?_eq_getElem (by omega)⟩
      have hkid : ((mirK ls k).set k (l.reverse.take j))[k]? = some (l.reverse.take j) := by rw [List.getElem?_set, if_pos rfl, if_pos (by omega)]
      rw [e1]
      repeat' first
        | refine k_then ?_
        | refine c_seq ?_
        | refine c_region ?_
        | refine s_nil ?_
        | refine s_move (by exact rfl) (by exact rfl) ?_
        | refine s_geq (by exact rfl) (by exact rfl) (by exact rfl) ?_
        | refine c_block ?_
        | refine c_skip ?_
        | (refine c_cond_p (by exact rfl) (fun h => ?_) (fun h => ?_) <;> try (exfalso; omega))
        | fail
      refine c_take 1 k (by exact rfl) (kids_get (f := rowI) (by simpa using hhd) hkid) ?_
      refine p_begin [(0, true), (1, true), (2, true), (3, true), (4, true), (6, true), (7, true), (8, true), (9, true), (10, true), (11, true), (12, true), .rd 5 13, (14, false), (15, true), (16, false)] [] (by kernel_rfl) ?_
      repeat' first
        | (refine p_at (by exact rfl) ?_
           first
            | refine t_move (by exact rfl) (by exact rfl) (by exact fun _ h => h.tl.tl.tl) ?_
            | refine t_idx (by exact rfl) (by exact rfl) (by exact rfl) (by assumption) (by first | assumption | omega) (by exact fun _ h => h.tl.tl.tl) ?_
            | refine t_ld_ro (by exact rfl) (by exact rfl) (by assumption) (by assumption) (by exact fun _ h => h.tl.tl.tl) ?_
            | fail)
        | fail
      refine p_rd ?_ ?_
      all_goals
        repeat' first
          | (refine p_at (by exact rfl) ?_
             first
              | refine r_ld_row (by exact rfl) (by exact rfl) (by exact .tail _ (.head _)) (by assumption) (by exact fun _ h => h.tl.tl.tl) ?_
              | fail)
          | fail
        refine p_mk [_] (by exact rfl) rfl (by exact rfl) rfl ?_ ?_ (by simp) (fun w A h => h.pick [] (by exact rfl)) (fun sx hsx => ?_)
        · simp [Value.cells]
        · simp
        repeat' first
          | (refine p_at (by exact rfl) ?_
             first
              | refine r_ld_row (by exact rfl) (by exact rfl) (by exact .tail _ (.tail _ (.head _))) (by assumption) (by exact fun _ h => h.tl.tl.tl.tl) ?_
              | fail)
          | fail
        refine p_append_row (j := 1) (by exact rfl) rfl (by exact rfl) (by exact rfl) (by exact rfl) (by exact .head _) (by exact rfl) (by simp [Value.cells, Value.oneCell']) ?_ (fun w v h => h.pick [] (by exact rfl)) (fun vk hvk => ?_)
        · simp only [List.length_cons, List.length_nil]; omega
        repeat' first
          | (refine p_at (by exact rfl) ?_
             first
              | refine t_idx (by exact rfl) (by exact rfl) (by exact rfl) (by assumption) (by first | assumption | omega) (by exact fun _ h => h.tl.tl.tl.tl) ?_
              | fail)
          | fail
        refine p_st_row (j := 2) (by exact rfl) (by exact rfl) (by exact rfl) (by exact rfl) hvk.one (by omega) (fun w h => h.pick [] (by exact rfl)) ?_
        repeat' first
          | refine p_nil ?_
          | fail
        repeat' first
          | refine k_then ?_
          | refine c_region ?_
          | refine s_nil ?_
          | refine s_move (by exact rfl) (by exact rfl) ?_
          | refine s_assign (by exact rfl) (by exact rfl) ?_
          | refine s_sub (by exact rfl) (by exact rfl) (by exact rfl) (by omega) ?_
          | refine k_blk ?_
          | fail
        refine c_pick [1, 1, 1] (by exact rfl) ?_
        have e2 : rowHP vk 3 1 ((l.reverse.take j).length + 1) (iV (l.reverse.take j) ++ [Value.int .i64 (l.getD (l.length - 1 - j) 0)]) = rowI vk (l.reverse.take (j + 1)) := by
          rw [htk, rowI, List.length_append, show ∀ a b : List Int, iV (a ++ b) = iV a ++ iV b from fun a b => by simp [iV]]; rfl
        refine c_give 1 k (by exact rfl) (by simp [kids, hjo, hml]; omega) ?_
        refine c_round (j + 1, hj.set k vk) [0, 0] ?_ (by rw [show (l.length : Int) - 1 - ((j + 1 : Nat) : Int) = ((l.length - 1 - j : Nat) : Int) - 1 by omega]; exact ⟨rfl, rfl, rfl, rfl, trivial⟩) ⟨by dsimp only; omega, by dsimp only; rw [List.length_set]; exact hjo⟩ (by dsimp only; omega)
        dsimp only
        rw [show (mirK ls k).set k (l.reverse.take (j + 1)) = ((mirK ls k).set k (l.reverse.take j)).set k (l.reverse.take (j + 1)) from by rw [List.set_set], ← kids_set (x := empHP), ← e2, Nat.mul_one]
        exact rfl
    · repeat' first
        | refine k_then ?_
        | refine c_seq ?_
        | refine c_region ?_
        | refine s_nil ?_
        | refine s_move (by exact rfl) (by exact rfl) ?_
        | refine s_assign (by exact rfl) (by exact rfl) ?_
        | refine s_geq (by exact rfl) (by exact rfl) (by exact rfl) ?_
        | refine s_add (by exact rfl) (by exact rfl) (by exact rfl) (by omega) ?_
        | refine c_exit ?_
        | refine k_then_exit ?_
        | refine k_blk ?_
        | refine k_blk_eq ?_
        | (refine c_cond_p (by exact rfl) (fun h => ?_) (fun h => ?_) <;> try (exfalso; omega))
        | fail
      refine c_round (k + 1, hj) [0, 0] ?_ ⟨rfl, rfl, rfl, trivial⟩ ⟨by dsimp only; omega, hjo⟩ (by dsimp only; omega)
      dsimp only
      rw [List.take_of_length_le (by rw [List.length_reverse]; omega), mirK_set hl]
      exact rfl
  · repeat' first
      | refine k_then ?_
      | refine c_seq ?_
      | refine c_region ?_
      | refine s_nil ?_
      | refine s_move (by exact rfl) (by exact rfl) ?_
      | refine s_assign (by exact rfl) (by exact rfl) ?_
      | refine s_lss (by exact rfl) (by exact rfl) (by exact rfl) ?_
      | refine s_len (by exact rfl) (by exact rfl) (by assumption) ?_
      | refine c_exit ?_
      | refine c_ret ?_
      | refine k_then_exit ?_
      | refine k_blk_eq ?_
      | (refine c_cond_p (by exact rfl) (fun h => ?_) (fun h => ?_) <;> try (exfalso; omega))
      | fail
    obtain rfl : k = ls.length := by omega
    refine ret1 [0, 0] rfl rfl rfl ⟨ho, hol, ?_⟩
    rw [mirK_all]
end Go.Proofs.Ytpajjnkmaebhcaa
end
section
set_option linter.unusedVariables false
namespace Fil
/-- where the first least one is -/
def atK (l : List Int) : Nat := l.findIdx fun x => decide (∀ y ∈ l, x ≤ y)
def canonK (l : List Int) : List Int := l.drop (atK l) ++ l.take (atK l)
def minK (l : List Int) : Int := l.foldl min (l.headD 0)
theorem foldl_min : ∀ (l : List Int) (a : Int), l.foldl min a ≤ a ∧ (∀ y ∈ l, l.foldl min a ≤ y) ∧ (l.foldl min a = a ∨ l.foldl min a ∈ l)
  | [], a => ⟨Int.le_refl _, by simp, .inl rfl⟩
  | x :: l, a => by
    obtain ⟨h1, h2, h3⟩ := foldl_min l (min a x)
    rw [List.foldl_cons]
    refine ⟨by omega, fun y hy => ?_, ?_⟩
    · rcases List.mem_cons.1 hy with rfl | hy
      · omega
      · exact h2 y hy
    · rcases h3 with h3 | h3
      · by_cases h : a ≤ x
        · exact .inl (by omega)
        · exact .inr (List.mem_cons.2 (.inl (by omega)))
      · exact .inr (.tail _ h3)
theorem minK_spec {l : List Int} (h : l ≠ []) : minK l ∈ l ∧ ∀ y ∈ l, minK l ≤ y := by
  cases l with
  | nil => exact absurd rfl h
  | cons a l =>
    obtain ⟨h1, h2, h3⟩ := foldl_min (a :: l) a
    have e : minK (a :: l) = (a :: l).foldl min a := rfl
    rw [e]
    refine ⟨?_, h2⟩
    rcases h3 with h3 | h3
    · rw [h3]; exact .head _
    · exact h3
theorem atK_lt {l : List Int} (h : l ≠ []) : atK l < l.length := by
  obtain ⟨h1, h2⟩ := minK_spec h
  rw [atK, List.findIdx_lt_length]
  exact ⟨_, h1, decide_eq_true h2⟩
theorem atK_of {l : List Int} {i : Nat} (hi : i < l.length) (h1 : ∀ y ∈ l, l.getD i 0 ≤ y) (h2 : ∀ j, j < i → l.getD i 0 < l.getD j 0) : atK l = i := by
  have hg : l.getD i 0 = l[i] := by rw [List.getD_eq_getElem?_getD, List.getElem?_eq_getElem hi]; rfl
  rw [atK, List.findIdx_eq hi]
  refine ⟨decide_eq_true (by rw [← hg]; exact h1), fun j hj => decide_eq_false fun h => ?_⟩
  have h3 := h2 j hj
  have h4 := h _ (List.getElem_mem hi)
  rw [hg, List.getD_eq_getElem?_getD, List.getElem?_eq_getElem (by omega), Option.getD_some] at h3
  omega
/-- the first one that is the least -/
theorem atK_idx {l : List Int} (h : l ≠ []) : l.findIdx? (fun y => decide (y = minK l)) = some (atK l) := by
  obtain ⟨h1, h2⟩ := minK_spec h
  cases hf : l.findIdx? (fun y => decide (y = minK l)) with
  | none =>
    have := List.findIdx?_eq_none_iff.1 hf _ h1
    simp at this
  | some i =>
    obtain ⟨h3, h4, h5⟩ := List.findIdx?_eq_some_iff_getElem.1 hf
    have h4 : l[i] = minK l := of_decide_eq_true h4
    have hg : l.getD i 0 = minK l := by rw [List.getD_eq_getElem?_getD, List.getElem?_eq_getElem h3]; exact h4
    rw [atK_of h3 (by rw [hg]; exact h2) fun j hj => ?_]
    have h6 := h2 _ (List.getElem_mem (show j < l.length by omega))
    have h7 := h5 j hj
    simp only [decide_eq_true_eq, Bool.not_eq_true, decide_eq_false_iff_not] at h7
    rw [hg, List.getD_eq_getElem?_getD, List.getElem?_eq_getElem (by omega), Option.getD_some]
    omega
/-- as the document turns it: one by one -/
theorem canon_take {l : List Int} {i : Nat} (hi : i < l.length) : (canonK l)[i]? = some (l.getD ((atK l + i) % l.length) 0) := by
  have hl : l ≠ [] := by intro e; rw [e] at hi; simp at hi
  have ha := atK_lt hl
  generalize hq : atK l = a at *
  have hm : (a + i) % l.length < l.length := Nat.mod_lt _ (by omega)
  have e2 : l.getD ((a + i) % l.length) 0 = l[(a + i) % l.length] := by rw [List.getD_eq_getElem?_getD, List.getElem?_eq_getElem hm]; rfl
  rw [canonK, hq, e2]
  by_cases h : a + i < l.length
  · rw [List.getElem?_append_left (by rw [List.length_drop]; omega), List.getElem?_drop, List.getElem?_eq_getElem h]
    simp only [Nat.mod_eq_of_lt h]
  · have hmm : (a + i) % l.length = a + i - l.length := by rw [Nat.mod_eq_sub_mod (by omega), Nat.mod_eq_of_lt (by omega)]
    rw [List.getElem?_append_right (by rw [List.length_drop]; omega), List.length_drop, List.getElem?_take_of_lt (by omega), List.getElem?_eq_getElem (by omega)]
    simp only [hmm]
    congr 2
    omega
theorem canon_length (l : List Int) : (canonK l).length = l.length := by
  rw [canonK, List.length_append, List.length_drop, List.length_take]; omega
theorem canon_nil : canonK [] = [] := rfl
end Fil
end
section
set_option linter.unusedVariables false
namespace Go.Proofs
open Go.Shelf
def Try.growInts_ren : Go.Shelf.Ren := ⟨fun | 4 => 81 | n => n, fun | 22 => 36 | 25 => 3 | 3 => 3 | 4 => 4 | 9 => 9 | 20 => 20 | 0 => 0 | n => n, fun | n => n⟩
theorem Try.growInts : Go.Proofs.Lays8.n4 Try.prog Try.growInts_ren := {
  mixed := by kernel_rfl
  f4 := ⟨Try.f81.name, by decide, Try.func81.trans (congrArg some (by kernel_rfl))⟩
  t0 := Try.underlying0
  a0 := Try.isAgg0
  z0 := Try.sizeOf0
  v0 := Try.zeroValue0
  t3 := Try.underlying3
  a3 := Try.isAgg3
  z3 := Try.sizeOf3
  v3 := Try.zeroValue3
  t4 := Try.underlying4
  a4 := Try.isAgg4
  z4 := Try.sizeOf4
  v4 := Try.zeroValue4
  t9 := Try.underlying9
  a9 := Try.isAgg9
  z9 := Try.sizeOf9
  v9 := Try.zeroValue9
  t20 := Try.underlying20
  a20 := Try.isAgg20
  z20 := Try.sizeOf20
  v20 := Try.zeroValue20
  t22 := Try.underlying36
  a22 := Try.isAgg36
  z22 := Try.sizeOf36
  v22 := Try.zeroValue36 }
end Go.Proofs
namespace Go.Proofs.Ytpajjnkmaebhcaa
open Go Go.RowKit Go.Sl Fil
theorem grow_mod (w : World) (o : Obj) : Mod w No (w.drew.alloc o) (fun k => k = w.heap.size) :=
  ⟨rfl, rfl, rfl, Nat.le_succ _, by show w.heap.size ≤ (w.heap.push o).size; rw [Array.size_push]; omega, fun k hk _ => by
    show (w.heap.push o)[k]? = w.heap[k]?
    rw [Array.getElem?_push, if_neg (by omega)], fun k h => .inr (by omega)⟩
theorem Grow_ok (n : Nat) (w : World) (hn : n ≤ 1048576) :
    Calls Try.prog 81 #[.slice none 0 0, .int .i64 (n : Int)] w (Post w No fun r L' => L' = [rowHP r 3 1 0 []]) := by
  by_cases h0 : n = 0
  · subst h0
    have c := Any8.slices_Grow_room Try.growInts none 0 0 0 w (Nat.le_refl _) (by omega) (by omega) (by omega)
    change Calls Try.prog 81 _ _ _ at c
    refine Calls.mono c ?_
    rintro e w' ⟨rfl, rfl⟩
    exact ⟨_, _, rfl, rfl, No, Mod.refl _ _, fun _ => False, fun _ => False, fun _ h => h.elim, fun _ h => h.elim, fun _ h => h.elim, ⟨by simp, .inl ⟨rfl, rfl⟩⟩, trivial⟩
  · obtain ⟨i0, hi0, hz0, hs0, hb0⟩ : ∃ i0 : TypeInfo, Try.prog.info? 3 = some i0 ∧ i0.zero = some (.int .i64 0) ∧ i0.size = 1 ∧ i0.bytes = 8 := by
      have h : (Try.prog.info? 3).map (fun i => (i.zero, i.size, i.bytes)) = some (some (.int .i64 0), 1, 8) := by kernel_rfl
      obtain ⟨i0, h1, h2⟩ := Option.map_eq_some_iff.1 h
      simp only [Prod.mk.injEq] at h2
      exact ⟨i0, h1, h2.1, h2.2.1, h2.2.2⟩
    have c := Any8.slices_Grow_grow Try.growInts i0 (.int .i64 0) hi0 hz0 (by omega) none 0 0 n [] w (Nat.le_refl _) (by omega) (by rw [hb0]; omega) (by omega) (by simp) (fun _ => rfl) (fun a h => by simp at h)
    change Calls Try.prog 81 _ _ _ at c
    refine Calls.mono c ?_
    rintro e w' ⟨rfl, rfl⟩
    refine ⟨_, _, rfl, rfl, _, grow_mod _ _, fun k => k = w.heap.size, fun _ => False, fun _ h => h, fun _ h => h.elim, fun _ _ h => h, ?_, trivial⟩
    have hg := grownCap_ge w (0 + n) 0 3
    have hm := grownCap_le_maxLen w (0 + n) 0 3 (by unfold maxLen; omega)
    refine ⟨by simp, .inr (.inl ⟨w.heap.size, 0, grownCap w (0 + n) 0 3, ([] : List Value).toArray ++ Builtin.zeroCells (Value.int .i64 0).cells (0 + n - 0) ++ Builtin.zeroCells (Value.int .i64 0).cells (grownCap w (0 + n) 0 3 - (0 + n)), rfl, rfl, ?_, Nat.zero_le _, hm, ?_, by simp⟩)⟩
    · show (w.heap.push _)[w.heap.size]? = _
      rw [Array.getElem?_push, if_pos rfl]
      rfl
    · rw [Nat.zero_add] at hg
      simp [Builtin.zeroCells, Value.cells]
      omega
set_option maxRecDepth 100000
set_option maxHeartbeats 8000000
set_option linter.unusedVariables false
set_option linter.unusedSimpArgs false
attribute [local irreducible] Code.wp wpList bodyPost wpQuiet Exit.then Exit.inBlock Post wpAnyH wpOp
theorem Min_ok (v : Value) (l : List Int) (w : World) (hs : Shp v l.length) (hr : RO w No v (iV l)) (hl : l ≠ []) :
    Calls Try.prog 64 #[v] w (Post w No (Just (.int .i64 (minK l)))) := by
  have hm := hs.1
  simp only [maxLen] at hm
  have hpos := List.length_pos_iff.2 hl
  have g0 := iV_get (l := l) (k := 0) hpos
  have ht1 : (l.take 1).foldl min (l.headD 0) = l.getD 0 0 := by
    cases l with
    | nil => exact absurd rfl hl
    | cons a l => simp
  refine enter0 (vs := [_]) Try.func64 rfl Try.ntmps64 rfl ?_
  repeat' first
    | refine k_then ?_
    | refine c_seq ?_
    | refine c_region ?_
    | refine s_nil ?_
    | refine s_move (by exact rfl) (by exact rfl) ?_
    | refine s_assign (by exact rfl) (by exact rfl) ?_
    | refine s_lss (by exact rfl) (by exact rfl) (by exact rfl) ?_
    | refine s_len (by exact rfl) (by exact rfl) (by assumption) ?_
    | refine s_idx (by exact rfl) (by exact rfl) (by exact rfl) (by assumption) (by first | assumption | omega) ?_
    | refine s_ld_ro (by exact rfl) (by exact rfl) (by assumption) (by assumption) ?_
    | refine c_block ?_
    | refine c_skip ?_
    | (refine c_cond_p (by exact rfl) (fun h => ?_) (fun h => ?_) <;> try (exfalso; omega))
    | fail
  refine c_loop (fun k : Nat => 1 ≤ k ∧ k ≤ l.length) (fun k => [(0, v), (3, .int .i64 ((l.take k).foldl min (l.headD 0))), (4, .int .i64 (k : Int))]) (fun _ => []) (fun k => l.length - k) 1 [] ⟨Nat.le_refl _, hpos⟩ (by exact rfl) (by rw [ht1]; exact ⟨rfl, rfl, rfl, trivial⟩) ?_
  rintro k ⟨hk1, hk⟩
  by_cases hlt : k < l.length
  · have g1 := iV_get hlt
    have htk : (l.take (k + 1)).foldl min (l.headD 0) = min ((l.take k).foldl min (l.headD 0)) (l.getD k 0) := by
      rw [List.take_add_one, List.getElem?_eq_getElem hlt, List.foldl_append, List.getD_eq_getElem?_getD, List.getElem?_eq_getElem hlt]; rfl
    repeat' first
      | refine k_then ?_
      | refine c_seq ?_
      | refine c_region ?_
      | refine s_nil ?_
      | refine s_move (by exact rfl) (by exact rfl) ?_
      | refine s_assign (by exact rfl) (by exact rfl) ?_
      | refine s_lss (by exact rfl) (by exact rfl) (by exact rfl) ?_
      | refine s_add (by exact rfl) (by exact rfl) (by exact rfl) (by omega) ?_
      | refine s_min (by exact rfl) (by exact rfl) (by exact rfl) ?_
      | refine s_len (by exact rfl) (by exact rfl) (by assumption) ?_
      | refine s_idx (by exact rfl) (by exact rfl) (by exact rfl) (by assumption) (by first | assumption | omega) ?_
      | refine s_ld_ro (by exact rfl) (by exact rfl) (by assumption) (by assumption) ?_
      | refine c_block ?_
      | refine c_skip ?_
      | refine k_blk ?_
      | (refine c_cond_p (by exact rfl) (fun h => ?_) (fun h => ?_) <;> try (exfalso; omega))
      | fail
    refine c_round (k + 1) [] (by exact rfl) (by rw [htk]; exact ⟨rfl, rfl, rfl, trivial⟩) ⟨by omega, by omega⟩ (by omega)
  · repeat' first
      | refine k_then ?_
      | refine c_seq ?_
      | refine c_region ?_
      | refine s_nil ?_
      | refine s_move (by exact rfl) (by exact rfl) ?_
      | refine s_assign (by exact rfl) (by exact rfl) ?_
      | refine s_lss (by exact rfl) (by exact rfl) (by exact rfl) ?_
      | refine s_len (by exact rfl) (by exact rfl) (by assumption) ?_
      | refine c_exit ?_
      | refine c_ret ?_
      | refine k_then_exit ?_
      | refine k_blk_eq ?_
      | (refine c_cond_p (by exact rfl) (fun h => ?_) (fun h => ?_) <;> try (exfalso; omega))
      | fail
    obtain rfl : k = l.length := by omega
    rw [List.take_length]
    refine ret1 [] rfl rfl rfl ⟨rfl, rfl⟩
theorem sum_take {ls : List (List Int)} {k : Nat} {l : List Int} (h : ls[k]? = some l) : (ls.take (k + 1)).flatten = (ls.take k).flatten ++ l := by
  rw [List.take_add_one, h, List.flatten_append]; simp
theorem Concat_ok (vc : Value) (hc : List Value) (ls : List (List Int)) (w : World) (hR : ROsI w No vc hc ls) (hN : ls.length ≤ 1048576) (hsum : ∀ k, (ls.take k).flatten.length ≤ 1048576) :
    Calls Try.prog 65 #[vc] w (Post w No fun r L' => L' = [rowHP r 3 1 ls.flatten.length (iV ls.flatten)]) := by
  have hsr := hR.shp
  have hrr := hR.ro
  refine enter0 (vs := [_]) Try.func65 rfl Try.ntmps65 rfl ?_
  repeat' first
    | refine k_then ?_
    | refine c_seq ?_
    | refine c_region ?_
    | refine s_nil ?_
    | refine s_move (by exact rfl) (by exact rfl) ?_
    | refine s_assign (by exact rfl) (by exact rfl) ?_
    | refine s_len (by exact rfl) (by exact rfl) (by assumption) ?_
    | refine c_block ?_
    | fail
  refine c_loop (fun k : Nat => k ≤ ls.length) (fun k => [(0, vc), (3, .int .i64 (((ls.take k).flatten.length : Nat) : Int)), (9, vc), (10, .int .i64 (ls.length : Int)), (11, .int .i64 (k : Int))]) (fun _ => []) (fun k => ls.length - k) 0 [] (Nat.zero_le _) (by exact rfl) ⟨rfl, rfl, rfl, rfl, rfl, trivial⟩ ?_
  rintro k hk
  have hsk := hsum k
  by_cases hlt : k < ls.length
  · obtain ⟨hx, hhx⟩ : ∃ x, hc[k]? = some x := ⟨_, List.getElem?_eq_getElem (by have := hR.len; omega)⟩
    obtain ⟨l, hl⟩ : ∃ l, ls[k]? = some l := ⟨_, List.getElem?_eq_getElem hlt⟩
    obtain ⟨hsx, hrx⟩ := hR.kid k hx l hhx hl
    have h1' : hc[k * 1]? = some hx := by rw [Nat.mul_one]; exact hhx
    have hst := congrArg List.length (sum_take hl)
    rw [List.length_append] at hst
    have hs1 := hsum (k + 1)
    repeat' first
      | refine k_then ?_
      | refine c_seq ?_
      | refine c_region ?_
      | refine s_nil ?_
      | refine s_move (by exact rfl) (by exact rfl) ?_
      | refine s_assign (by exact rfl) (by exact rfl) ?_
      | refine s_lss (by exact rfl) (by exact rfl) (by exact rfl) ?_
      | refine s_add (by exact rfl) (by exact rfl) (by exact rfl) (by omega) ?_
      | refine s_len (by exact rfl) (by exact rfl) (by assumption) ?_
      | refine s_idx (by exact rfl) (by exact rfl) (by exact rfl) (by assumption) (by first | assumption | omega) ?_
      | refine s_ld_ro (by exact rfl) (by exact rfl) (by assumption) (by assumption) ?_
      | refine c_block ?_
      | refine c_skip ?_
      | refine k_blk ?_
      | (refine c_cond_p (by exact rfl) (fun h => ?_) (fun h => ?_) <;> try (exfalso; omega))
      | fail
    refine c_round (k + 1) [] (by exact rfl) (by rw [hst, Int.natCast_add]; exact ⟨rfl, rfl, rfl, rfl, rfl, trivial⟩) (by omega) (by omega)
  · repeat' first
      | refine k_then ?_
      | refine c_seq ?_
      | refine c_region ?_
      | refine s_nil ?_
      | refine s_move (by exact rfl) (by exact rfl) ?_
      | refine s_lss (by exact rfl) (by exact rfl) (by exact rfl) ?_
      | refine c_exit ?_
      | refine k_then_exit ?_
      | refine k_blk_eq ?_
      | (refine c_cond_p (by exact rfl) (fun h => ?_) (fun h => ?_) <;> try (exfalso; omega))
      | fail
    obtain rfl : k = ls.length := by omega
    rw [List.take_length] at *
    refine o_call (by exact rfl) (by exact rfl) (fun w h => Grow_ok ls.flatten.length w hsk) ?_
    rintro vo _ rfl
    repeat' first
      | refine k_then ?_
      | refine c_seq ?_
      | refine c_region ?_
      | refine s_nil ?_
      | refine s_move (by exact rfl) (by exact rfl) ?_
      | refine s_assign (by exact rfl) (by exact rfl) ?_
      | refine s_len (by exact rfl) (by exact rfl) (by assumption) ?_
      | refine c_block ?_
      | fail
    refine c_loop (fun x : Nat × Value => x.1 ≤ ls.length) (fun x => [(6, x.2), (25, vc), (26, .int .i64 (ls.length : Int)), (27, .int .i64 (x.1 : Int))]) (fun x => [rowHP x.2 3 1 (ls.take x.1).flatten.length (iV (ls.take x.1).flatten)]) (fun x => ls.length - x.1) (0, vo) [0] (Nat.zero_le _) (by exact rfl) ⟨rfl, rfl, rfl, rfl, trivial⟩ ?_
    rintro ⟨j, vx⟩ hj
    dsimp only at hj ⊢
    have hsj := hsum j
    by_cases hjl : j < ls.length
    · obtain ⟨hx, hhx⟩ : ∃ x, hc[j]? = some x := ⟨_, List.getElem?_eq_getElem (by have := hR.len; omega)⟩
      obtain ⟨l, hl⟩ : ∃ l, ls[j]? = some l := ⟨_, List.getElem?_eq_getElem hjl⟩
      obtain ⟨hsx, hrx⟩ := hR.kid j hx l hhx hl
      have h1' : hc[j * 1]? = some hx := by rw [Nat.mul_one]; exact hhx
      have hst := congrArg List.length (sum_take hl)
      rw [List.length_append] at hst
      have hs1 := hsum (j + 1)
      repeat' first
        | refine k_then ?_
        | refine c_seq ?_
        | refine c_region ?_
        | refine s_nil ?_
        | refine s_move (by exact rfl) (by exact rfl) ?_
        | refine s_assign (by exact rfl) (by exact rfl) ?_
        | refine s_lss (by exact rfl) (by exact rfl) (by exact rfl) ?_
        | refine s_idx (by exact rfl) (by exact rfl) (by exact rfl) (by assumption) (by first | assumption | omega) ?_
        | refine s_ld_ro (by exact rfl) (by exact rfl) (by assumption) (by assumption) ?_
        | refine c_block ?_
        | refine c_skip ?_
        | (refine c_cond_p (by exact rfl) (fun h => ?_) (fun h => ?_) <;> try (exfalso; omega))
        | fail
      refine o_append_ro (bytes := 8) (i := 0) (by exact rfl) (by exact rfl) (by exact rfl) (by exact rfl) hrx hsx (by simp [iV]) (iV_one _) (by omega) fun v1 hv1 => ?_
      repeat' first
        | refine k_then ?_
        | refine c_region ?_
        | refine s_nil ?_
        | refine s_move (by exact rfl) (by exact rfl) ?_
        | refine s_assign (by exact rfl) (by exact rfl) ?_
        | refine s_add (by exact rfl) (by exact rfl) (by exact rfl) (by omega) ?_
        | refine k_blk ?_
        | fail
      refine c_round (j + 1, v1) [0] ?_ ⟨rfl, rfl, rfl, rfl, trivial⟩ (by dsimp only; omega) (by dsimp only; omega)
      dsimp only
      rw [sum_take hl, List.length_append, show ∀ a b : List Int, iV (a ++ b) = iV a ++ iV b from fun a b => by simp [iV]]
      exact rfl
    · repeat' first
        | refine k_then ?_
        | refine c_seq ?_
        | refine c_region ?_
        | refine s_nil ?_
        | refine s_move (by exact rfl) (by exact rfl) ?_
        | refine s_assign (by exact rfl) (by exact rfl) ?_
        | refine s_lss (by exact rfl) (by exact rfl) (by exact rfl) ?_
        | refine c_exit ?_
        | refine c_ret ?_
        | refine k_then_exit ?_
        | refine k_blk_eq ?_
        | (refine c_cond_p (by exact rfl) (fun h => ?_) (fun h => ?_) <;> try (exfalso; omega))
        | fail
      obtain rfl : j = ls.length := by omega
      refine ret1 [0] rfl rfl rfl ?_
      rw [List.take_length]
end Go.Proofs.Ytpajjnkmaebhcaa
end
section
namespace Fil
/-- is an edge between u and v? -/
def between (u v : Int) (e : E) : Bool := decide (e.1 = u ∧ e.2.1 = v ∨ e.1 = v ∧ e.2.1 = u)
def findK (es : List E) (u v : Int) : Int := match es.findIdx? (between u v) with | some i => (i : Int) | none => -1
theorem findK_ge {es : List E} {u v : Int} : 0 ≤ findK es u v ↔ ∃ e ∈ es, between u v e = true := by
  unfold findK
  cases h : es.findIdx? (between u v) with
  | none =>
    rw [List.findIdx?_eq_none_iff] at h
    simp only [show ¬ (0 : Int) ≤ -1 by omega, false_iff]
    rintro ⟨e, he, h2⟩
    rw [h e he] at h2
    simp at h2
  | some i =>
    obtain ⟨hi, h2, _⟩ := List.findIdx?_eq_some_iff_getElem.1 h
    simp only [show (0 : Int) ≤ (i : Int) by omega, true_iff]
    exact ⟨_, List.getElem_mem hi, h2⟩
def isNext (es : List E) (u v : Nat) : Bool := decide (0 ≤ findK es (u : Int) (v : Int))
theorem isNext_iff {n : Int} {es : List E} (hR : RightG n es) {u v : Nat} : isNext es u v = true ↔ v ∈ nb (tn es) u := by
  rw [isNext, decide_eq_true_iff, findK_ge, mem_nb (fun e he => by have := hR.good.lt e he; omega)]
  simp only [between, decide_eq_true_iff, tn, List.mem_map, Prod.mk.injEq]
  constructor
  · rintro ⟨e, he, h | h⟩
    · exact .inl ⟨e, he, by omega, by omega⟩
    · exact .inr ⟨e, he, by omega, by omega⟩
  · rintro (⟨e, he, h1, h2⟩ | ⟨e, he, h1, h2⟩)
    · obtain ⟨q1, q2, _⟩ := hR.ok e he
      exact ⟨e, he, .inl ⟨by omega, by omega⟩⟩
    · obtain ⟨q1, q2, _⟩ := hR.ok e he
      exact ⟨e, he, .inr ⟨by omega, by omega⟩⟩
theorem nb_nodup {n : Int} {es : List E} (hR : RightG n es) (u : Nat) : (nb (tn es) u).Nodup := by
  rw [nb, List.Nodup, List.pairwise_filterMap, tn, List.pairwise_map]
  refine List.Pairwise.imp_of_mem ?_ hR.sorted
  intro a b ha hb hab x hx y hy
  obtain ⟨a1, a2, _⟩ := hR.ok a ha
  obtain ⟨b1, b2, _⟩ := hR.ok b hb
  dsimp only [ltE] at hab
  dsimp only at hx hy
  split at hx <;> split at hy
  · simp only [Option.some.injEq] at hx hy; omega
  · split at hy
    · simp only [Option.some.injEq] at hx hy; omega
    · simp at hy
  · split at hx
    · simp only [Option.some.injEq] at hx hy; omega
    · simp at hx
  · split at hx
    · split at hy
      · simp only [Option.some.injEq] at hx hy; omega
      · simp at hy
    · simp at hx
theorem near_eq {n : Int} {es : List E} (hR : RightG n es) {u : Nat} (hu : u < n.toNat) : (List.range n.toNat).filter (isNext es u) = nearS (tn es) u := by
  have hn := nb_nodup hR u
  refine List.Perm.eq_of_pairwise (le := fun a b => a ≤ b) (fun a b _ _ h1 h2 => Nat.le_antisymm h1 h2) ?_ ?_ ?_
  · exact (List.pairwise_lt_range.imp fun h => Nat.le_of_lt h).filter _
  · have := List.pairwise_mergeSort (le := fun (x y : Nat) => decide (x ≤ y)) (fun a b c h1 h2 => by simp at *; omega) (fun a b => by simp; omega) (nb (tn es) u)
    exact this.imp fun h => by simpa using h
  · refine ((List.perm_ext_iff_of_nodup (List.nodup_range.filter _) hn).2 fun v => ?_).trans (List.mergeSort_perm _ _).symm
    rw [List.mem_filter, List.mem_range, isNext_iff hR]
    exact ⟨fun h => h.2, fun h => ⟨hR.good.adj.lt u hu v h, h⟩⟩
end Fil
namespace Go.Proofs.Ytpajjnkmaebhcaa
open Go.RowKit Go.Sl Fil
set_option maxRecDepth 100000
set_option maxHeartbeats 8000000
set_option linter.unusedVariables false
set_option linter.unusedSimpArgs false
attribute [local irreducible] Code.wp wpList bodyPost wpQuiet Exit.then Exit.inBlock Post wpAnyH wpOp
theorem Has_ok (v : Value) (l : List Int) (i : Int) (w : World) (hs : Shp v l.length) (hr : RO w No v (iV l)) :
    Calls Try.prog 25 #[v, .int .i64 i] w (Post w No (Just (.bool (decide (i ∈ l))))) := by
  have hm := hs.1
  simp only [maxLen] at hm
  refine enter0 (vs := [_, _]) Try.func25 rfl Try.ntmps25 rfl ?_
  repeat' first
    | refine k_then ?_
    | refine c_seq ?_
    | refine c_region ?_
    | refine s_nil ?_
    | refine s_assign (by exact rfl) (by exact rfl) ?_
    | refine c_block ?_
  refine c_loop (fun k : Nat => k ≤ l.length ∧ i ∉ l.take k) (fun k => [(0, v), (1, .int .i64 i), (5, .int .i64 (k : Int))]) (fun _ => []) (fun k => l.length - k) 0 [] ⟨by omega, by simp⟩ rfl ⟨rfl, rfl, rfl, trivial⟩ ?_
  rintro k ⟨hk, hq⟩
  by_cases hlt : k < l.length
  · obtain ⟨c, hc⟩ : ∃ c, l[k]? = some c := ⟨_, List.getElem?_eq_getElem hlt⟩
    have h1 : (iV l)[k * 1]? = some (.int .i64 c) := by simp [iV, hc]
    repeat' first
      | refine k_then ?_
      | refine c_seq ?_
      | refine c_region ?_
      | refine s_nil ?_
      | refine s_move (by exact rfl) (by exact rfl) ?_
      | refine s_assign (by exact rfl) (by exact rfl) ?_
      | refine s_lss (by exact rfl) (by exact rfl) (by exact rfl) ?_
      | refine s_eql (by exact rfl) (by exact rfl) (by exact rfl) ?_
      | refine s_add (by exact rfl) (by exact rfl) (by exact rfl) (by omega) ?_
      | refine s_len (by exact rfl) (by exact rfl) (by assumption) ?_
      | refine s_idx (by exact rfl) (by exact rfl) (by exact rfl) (by assumption) (by first | assumption | omega) ?_
      | refine s_ld_ro (by exact rfl) (by exact rfl) (by assumption) (by assumption) ?_
      | refine c_block ?_
      | refine c_skip ?_
      | refine c_ret ?_
      | refine k_then_ret ?_
      | refine k_blk ?_
      | refine k_blk_ret ?_
      | (refine c_cond_p (by exact rfl) (fun h => ?_) (fun h => ?_) <;> try (exfalso; omega))
    · refine ret1 [] rfl rfl rfl ⟨congrArg Value.bool (decide_eq_true ?_).symm, rfl⟩
      have : c = i := by omega
      rw [← this]
      exact List.mem_of_getElem? hc
    · refine c_round (k + 1) [] (by exact rfl) (by exact ⟨rfl, rfl, rfl, trivial⟩) ⟨by omega, ?_⟩ (by omega)
      rw [List.take_add_one, hc]
      simp only [Option.toList_some, List.mem_append, List.mem_singleton]
      rintro (h | h)
      · exact hq h
      · omega
  · repeat' first
      | refine k_then ?_
      | refine c_seq ?_
      | refine c_region ?_
      | refine s_nil ?_
      | refine s_move (by exact rfl) (by exact rfl) ?_
      | refine s_assign (by exact rfl) (by exact rfl) ?_
      | refine s_lss (by exact rfl) (by exact rfl) (by exact rfl) ?_
      | refine s_len (by exact rfl) (by exact rfl) (by assumption) ?_
      | refine c_exit ?_
      | refine c_ret ?_
      | refine k_then_exit ?_
      | refine k_blk_eq ?_
      | (refine c_cond_p (by exact rfl) (fun h => ?_) (fun h => ?_) <;> try (exfalso; omega))
    rw [List.take_of_length_le (by omega)] at hq
    refine ret1 [] rfl rfl rfl ⟨congrArg Value.bool (decide_eq_false hq).symm, rfl⟩
theorem Find_ok (n : Int) (v : Value) (es : List E) (x y : Int) (w : World) (hs : Shp v es.length) (hr : RO w No v (esV es)) :
    Calls Try.prog 63 #[.agg #[.int .i64 n, v], .int .i64 x, .int .i64 y] w (Post w No (Just (.int .i64 (findK es x y)))) := by
  have hm := hs.1
  simp only [maxLen] at hm
  refine enter0 (vs := [_, _, _]) Try.func63 rfl Try.ntmps63 rfl ?_
  repeat' first
    | refine k_then ?_
    | refine c_seq ?_
    | refine c_region ?_
    | refine s_nil ?_
    | refine s_assign (by exact rfl) (by exact rfl) ?_
    | refine o_box (by exact rfl) (by exact rfl) (fun b => ?_)
    | refine c_block ?_
  refine c_loop (fun k : Nat => k ≤ es.length ∧ ∀ e ∈ es.take k, between x y e = false) (fun k => [(1, .int .i64 x), (2, .int .i64 y), (3, .pointer (some ⟨b, 0, none⟩)), (7, .int .i64 (k : Int))]) (fun _ => [boxHP b 24 [.int .i64 n, v]]) (fun k => es.length - k) 0 [0] ⟨by omega, by simp⟩ rfl ⟨rfl, rfl, rfl, rfl, trivial⟩ ?_
  rintro k ⟨hk, hq⟩
  by_cases hlt : k < es.length
  · obtain ⟨e, he⟩ : ∃ e, es[k]? = some e := ⟨_, List.getElem?_eq_getElem hlt⟩
    obtain ⟨hE0, hE1, hE2⟩ := esV_get he
    cases hbt : between x y e
    · have hn : ¬ (e.1 = x ∧ e.2.1 = y ∨ e.1 = y ∧ e.2.1 = x) := by simpa [between] using hbt
      repeat' first
        | refine k_then ?_
        | refine c_seq ?_
        | refine c_region ?_
        | refine s_nil ?_
        | refine s_move (by exact rfl) (by exact rfl) ?_
        | refine s_assign (by exact rfl) (by exact rfl) ?_
        | refine s_fa (by exact rfl) (by exact rfl) ?_
        | refine s_ld_box (by exact rfl) (by exact rfl) (by exact .head _) (by exact rfl) ?_
        | refine s_lss (by exact rfl) (by exact rfl) (by exact rfl) ?_
        | refine s_eql (by exact rfl) (by exact rfl) (by exact rfl) ?_
        | refine s_add (by exact rfl) (by exact rfl) (by exact rfl) (by omega) ?_
        | refine s_len (by exact rfl) (by exact rfl) (by assumption) ?_
        | refine s_idx (by exact rfl) (by exact rfl) (by exact rfl) (by assumption) (by first | assumption | omega) ?_
        | refine s_fap (by exact rfl) (by exact rfl) (by assumption) (by omega) ?_
        | refine s_pick_t (by exact rfl) (by exact rfl) (by exact rfl) ?_
        | refine s_pick_f (by exact rfl) (by exact rfl) (by exact rfl) ?_
        | refine s_ld_ro (by exact rfl) (by exact rfl) (by assumption) (by assumption) ?_
        | refine c_block ?_
        | refine c_skip ?_
        | refine k_blk ?_
        | (refine c_cond_p (by exact rfl) (fun h => ?_) (fun h => ?_) <;> try (exfalso; omega))
        | refine c_cond_f (by exact rfl) ?_
        | (refine g_case (by exact rfl) (by exact rfl) (fun h => ?_) (fun h => ?_) <;> try (exfalso; omega))
        | refine g_skip (by exact rfl) (by exact rfl) (by exact rfl) (by exact rfl) ?_
        | refine w_move (by exact rfl) (by exact rfl) (by exact rfl) (by exact rfl) ?_
        | refine w_fa (by exact rfl) (by exact rfl) (by exact rfl) (by exact rfl) ?_
        | refine w_ld_box (by exact rfl) (by exact rfl) (by exact rfl) (by exact rfl) (by exact .head _) (by exact rfl) ?_
        | refine w_eql (by exact rfl) (by exact rfl) (by exact rfl) (by exact rfl) (by exact rfl) ?_
        | refine w_idx (by exact rfl) (by exact rfl) (by exact rfl) (by exact rfl) (by exact rfl) (by assumption) (by first | assumption | omega) ?_
        | refine w_fap (by exact rfl) (by exact rfl) (by exact rfl) (by exact rfl) (by assumption) (by omega) ?_
        | refine w_pick_t (by exact rfl) (by exact rfl) (by exact rfl) (by exact rfl) (by exact rfl) ?_
        | refine w_pick_f (by exact rfl) (by exact rfl) (by exact rfl) (by exact rfl) (by exact rfl) ?_
        | refine w_ld_ro (by exact rfl) (by exact rfl) (by exact rfl) (by exact rfl) (by assumption) (by assumption) ?_
      all_goals
        refine c_round (k + 1) [0] (by exact rfl) (by exact ⟨rfl, rfl, rfl, rfl, trivial⟩) ⟨by omega, ?_⟩ (by omega)
        rw [List.take_add_one, he]
        intro a ha
        rcases List.mem_append.1 ha with ha | ha
        · exact hq a ha
        · obtain rfl : a = e := by simpa using ha
          exact hbt
    · have hp : e.1 = x ∧ e.2.1 = y ∨ e.1 = y ∧ e.2.1 = x := by simpa [between] using hbt
      have hfk : findK es x y = (k : Int) := by
        have : es.findIdx? (between x y) = some k := by
          rw [List.findIdx?_eq_some_iff_getElem]
          obtain ⟨h1, h2⟩ := List.getElem?_eq_some_iff.1 he
          refine ⟨h1, by rw [h2]; exact hbt, fun j hj => ?_⟩
          rw [hq _ (List.mem_take_iff_getElem.2 ⟨j, by omega, rfl⟩)]
          simp
        rw [findK, this]
      repeat' first
        | refine k_then ?_
        | refine c_seq ?_
        | refine c_region ?_
        | refine s_nil ?_
        | refine s_move (by exact rfl) (by exact rfl) ?_
        | refine s_assign (by exact rfl) (by exact rfl) ?_
        | refine s_fa (by exact rfl) (by exact rfl) ?_
        | refine s_ld_box (by exact rfl) (by exact rfl) (by exact .head _) (by exact rfl) ?_
        | refine s_lss (by exact rfl) (by exact rfl) (by exact rfl) ?_
        | refine s_eql (by exact rfl) (by exact rfl) (by exact rfl) ?_
        | refine s_len (by exact rfl) (by exact rfl) (by assumption) ?_
        | refine s_idx (by exact rfl) (by exact rfl) (by exact rfl) (by assumption) (by first | assumption | omega) ?_
        | refine s_fap (by exact rfl) (by exact rfl) (by assumption) (by omega) ?_
        | refine s_pick_t (by exact rfl) (by exact rfl) (by exact rfl) ?_
        | refine s_pick_f (by exact rfl) (by exact rfl) (by exact rfl) ?_
        | refine s_ld_ro (by exact rfl) (by exact rfl) (by assumption) (by assumption) ?_
        | refine c_block ?_
        | refine c_skip ?_
        | refine c_ret ?_
        | refine k_then_ret ?_
        | refine k_blk_ret ?_
        | (refine c_cond_p (by exact rfl) (fun h => ?_) (fun h => ?_) <;> try (exfalso; omega))
        | refine c_cond_t (by exact rfl) ?_
        | (refine g_case (by exact rfl) (by exact rfl) (fun h => ?_) (fun h => ?_) <;> try (exfalso; omega))
        | refine g_skip (by exact rfl) (by exact rfl) (by exact rfl) (by exact rfl) ?_
        | refine w_move (by exact rfl) (by exact rfl) (by exact rfl) (by exact rfl) ?_
        | refine w_fa (by exact rfl) (by exact rfl) (by exact rfl) (by exact rfl) ?_
        | refine w_ld_box (by exact rfl) (by exact rfl) (by exact rfl) (by exact rfl) (by exact .head _) (by exact rfl) ?_
        | refine w_eql (by exact rfl) (by exact rfl) (by exact rfl) (by exact rfl) (by exact rfl) ?_
        | refine w_idx (by exact rfl) (by exact rfl) (by exact rfl) (by exact rfl) (by exact rfl) (by assumption) (by first | assumption | omega) ?_
        | refine w_fap (by exact rfl) (by exact rfl) (by exact rfl) (by exact rfl) (by assumption) (by omega) ?_
        | refine w_pick_t (by exact rfl) (by exact rfl) (by exact rfl) (by exact rfl) (by exact rfl) ?_
        | refine w_ld_ro (by exact rfl) (by exact rfl) (by exact rfl) (by exact rfl) (by assumption) (by assumption) ?_
      all_goals refine ret1 [] rfl rfl rfl ⟨by rw [hfk], rfl⟩
  · repeat' first
      | refine k_then ?_
      | refine c_seq ?_
      | refine c_region ?_
      | refine s_nil ?_
      | refine s_move (by exact rfl) (by exact rfl) ?_
      | refine s_assign (by exact rfl) (by exact rfl) ?_
      | refine s_fa (by exact rfl) (by exact rfl) ?_
      | refine s_ld_box (by exact rfl) (by exact rfl) (by exact .head _) (by exact rfl) ?_
      | refine s_lss (by exact rfl) (by exact rfl) (by exact rfl) ?_
      | refine s_len (by exact rfl) (by exact rfl) (by assumption) ?_
      | refine c_exit ?_
      | refine c_ret ?_
      | refine k_then_exit ?_
      | refine k_blk_eq ?_
      | (refine c_cond_p (by exact rfl) (fun h => ?_) (fun h => ?_) <;> try (exfalso; omega))
    rw [List.take_of_length_le (by omega)] at hq
    refine ret1 [] rfl rfl rfl ⟨?_, rfl⟩
    have : es.findIdx? (between x y) = none := List.findIdx?_eq_none_iff.2 hq
    rw [findK, this]
theorem refNear_ok (n : Int) (v : Value) (es : List E) (w : World) (hs : Shp v es.length) (hr : RO w No v (esV es)) (hR : RightG n es) :
    Calls Try.prog 37 #[.agg #[.int .i64 n, v]] w (Post w No fun r L' => ∃ hs : List Value, hs.length = n.toNat ∧ L' = [rowHP r 36 1 n.toNat hs, starHP (kids rowN hs ((List.range n.toNat).map (nearS (tn es))))]) := by
  have hlo := hR.lo
  have hhi := hR.hi
  have hm : es.length < 4611686018427387904 := by have := hR.many; omega
  refine enter0 (vs := [_]) Try.func37 rfl Try.ntmps37 rfl ?_
  repeat' first
    | refine k_then ?_
    | refine c_seq ?_
    | refine c_region ?_
    | refine s_nil ?_
    | refine s_assign (by exact rfl) (by exact rfl) ?_
    | refine s_fa (by exact rfl) (by exact rfl) ?_
    | refine s_ld_box (by exact rfl) (by exact rfl) (by exact .head _) (by exact rfl) ?_
    | refine o_box (by exact rfl) (by exact rfl) (fun b => ?_)
  refine o_make (by exact rfl) (by exact rfl) (by exact rfl) (by omega) (by omega) fun vo hvo => ?_
  rw [made1 rfl]
  have hnear := fun u (hu : u < n.toNat) => near_eq hR hu
  repeat' first
    | refine k_then ?_
    | refine c_seq ?_
    | refine c_region ?_
    | refine s_nil ?_
    | refine s_assign (by exact rfl) (by exact rfl) ?_
    | refine c_block ?_
  generalize hN : n.toNat = N at *
  have hnN : n = (N : Int) := by omega
  subst hnN
  let part : Nat → Nat → Nat → List Nat := fun u m w => if w < u then (List.range N).filter (isNext es w) else if w = u then (List.range m).filter (isNext es w) else []
  refine c_nils 3 1 N ?_
  refine c_loop (fun x : Nat × List Value => x.1 ≤ N ∧ x.2.length = N) (fun x => [(1, .pointer (some ⟨b, 0, none⟩)), (3, vo), (4, .int .i64 (x.1 : Int))]) (fun x => [rowHP vo 36 1 N x.2, starHP (kids rowN x.2 ((List.range N).map (part x.1 0))), boxHP b 24 [.int .i64 (N : Int), v]]) (fun x => N - x.1) (0, List.replicate N (.slice none 0 0)) [1, 0, 0] ⟨by omega, by simp⟩ ?_ ⟨rfl, rfl, rfl, trivial⟩ ?_
  · rw [show (List.range N).map (part 0 0) = List.replicate N [] from by
      rw [List.eq_replicate_iff]
      refine ⟨by simp, fun x hx => ?_⟩
      obtain ⟨w, _, rfl⟩ := List.mem_map.1 hx
      simp only [part]
      split
      · omega
      · split <;> simp]
    rw [kids_nils]
    rfl
  rintro ⟨u, hs0⟩ ⟨hu, hl0⟩
  dsimp only at hu hl0 ⊢
  by_cases hul : u < N
  · repeat' first
      | refine k_then ?_
      | refine c_seq ?_
      | refine c_region ?_
      | refine s_nil ?_
      | refine s_move (by exact rfl) (by exact rfl) ?_
      | refine s_assign (by exact rfl) (by exact rfl) ?_
      | refine s_fa (by exact rfl) (by exact rfl) ?_
      | refine s_ld_box (by exact rfl) (by exact rfl) (by exact .tail _ (.tail _ (.head _))) (by exact rfl) ?_
      | refine s_lss (by exact rfl) (by exact rfl) (by exact rfl) ?_
      | refine c_block ?_
      | refine c_skip ?_
      | (refine c_cond_p (by exact rfl) (fun h => ?_) (fun h => ?_) <;> try (exfalso; omega))
    refine c_loop (fun x : Nat × List Value => x.1 ≤ N ∧ x.2.length = N) (fun x => [(1, .pointer (some ⟨b, 0, none⟩)), (3, vo), (4, .int .i64 (u : Int)), (5, .int .i64 (x.1 : Int))]) (fun x => [rowHP vo 36 1 N x.2, starHP (kids rowN x.2 ((List.range N).map (part u x.1))), boxHP b 24 [.int .i64 (N : Int), v]]) (fun x => N - x.1) (0, hs0) [0, 0, 0] ⟨by omega, hl0⟩ (by exact rfl) ⟨rfl, rfl, rfl, rfl, trivial⟩ ?_
    clear hl0
    clear hs0
    rintro ⟨m, hs0⟩ ⟨hmN, hl0⟩
    dsimp only at hmN hl0 ⊢
    by_cases hml : m < N
    · repeat' first
        | refine k_then ?_
        | refine c_seq ?_
        | refine c_region ?_
        | refine s_nil ?_
        | refine s_move (by exact rfl) (by exact rfl) ?_
        | refine s_fa (by exact rfl) (by exact rfl) ?_
        | refine s_ld_box (by exact rfl) (by exact rfl) (by exact .tail _ (.tail _ (.head _))) (by exact rfl) ?_
        | refine s_lss (by exact rfl) (by exact rfl) (by exact rfl) ?_
        | refine s_ldk_box (by exact rfl) (by exact rfl) (by exact .tail _ (.tail _ (.head _))) (by exact rfl) (by exact rfl) ?_
        | refine c_block ?_
        | refine c_skip ?_
        | (refine c_cond_p (by exact rfl) (fun h => ?_) (fun h => ?_) <;> try (exfalso; omega))
      refine s_call (by exact rfl) (by exact rfl) (fun w h => Find_ok N v es u m w hs (ro_old h hr)) ?_
      have hrow : (List.range (m + 1)).filter (isNext es u) = (List.range m).filter (isNext es u) ++ (if isNext es u m then [m] else []) := by
        rw [List.range_succ, List.filter_append]
        simp [List.filter_cons]
      have hpart : (List.range N).map (part u (m + 1)) = ((List.range N).map (part u m)).set u ((List.range (m + 1)).filter (isNext es u)) := by
        apply List.ext_getElem?
        intro k
        simp only [List.getElem?_set, List.getElem?_map, List.length_map, List.length_range]
        by_cases hk : k < N
        · rw [List.getElem?_range hk]
          by_cases hku : u = k
          · subst hku
            simp [part, hk]
          · simp only [hku, if_false, Option.map_some, part]
            have : ¬ k = u := fun e => hku e.symm
            simp [this]
        · rw [List.getElem?_eq_none (by simpa using hk)]
          have : ¬ u = k := by omega
          simp [this]
      have hpu : ((List.range N).map (part u m))[u]? = some ((List.range m).filter (isNext es u)) := by simp [part, hul]
      have hcnt : ((List.range m).filter (isNext es u)).length ≤ m := by
        have := List.length_filter_le (isNext es u) (List.range m)
        simpa using this
      cases hnx : isNext es u m
      · have hneg : ¬ (0 ≤ findK es (u : Int) (m : Int)) := by simpa [isNext] using hnx
        rw [hnx, if_neg (by simp), List.append_nil] at hrow
        repeat' first
          | refine k_then ?_
          | refine c_region ?_
          | refine s_nil ?_
          | refine s_move (by exact rfl) (by exact rfl) ?_
          | refine s_assign (by exact rfl) (by exact rfl) ?_
          | refine s_geq (by exact rfl) (by exact rfl) (by exact rfl) ?_
          | refine s_add (by exact rfl) (by exact rfl) (by exact rfl) (by omega) ?_
          | refine c_skip ?_
          | refine k_blk ?_
          | (refine c_cond_p (by exact rfl) (fun h => ?_) (fun h => ?_) <;> try (exfalso; omega))
        refine c_round (m + 1, hs0) [0, 0, 0] ?_ (by exact ⟨rfl, rfl, rfl, rfl, trivial⟩) ⟨by dsimp only; omega, hl0⟩ (by dsimp only; omega)
        dsimp only
        rw [hpart, hrow, show ((List.range N).map (part u m)).set u ((List.range m).filter (isNext es u)) = (List.range N).map (part u m) from by
          apply List.ext_getElem?
          intro k
          rw [List.getElem?_set]
          split
          · rename_i e; subst e; rw [hpu]; simp [hul]
          · rfl]
        rfl
      · have hpos : 0 ≤ findK es (u : Int) (m : Int) := by simpa [isNext] using hnx
        rw [hnx, if_pos rfl] at hrow
        obtain ⟨hd, hhd⟩ : ∃ hd, hs0[u]? = some hd := ⟨_, List.getElem?_eq_getElem (by omega)⟩
        have hhd1 : hs0[u * 1]? = some hd := by simpa using hhd
        repeat' first
          | refine k_then ?_
          | refine c_region ?_
          | refine s_nil ?_
          | refine s_move (by exact rfl) (by exact rfl) ?_
          | refine s_geq (by exact rfl) (by exact rfl) (by exact rfl) ?_
          | refine s_idx (by exact rfl) (by exact rfl) (by exact rfl) (by assumption) (by first | assumption | omega) ?_
          | refine s_ld_row (by exact rfl) (by exact rfl) (by exact .head _) (by assumption) ?_
          | (refine c_cond_p (by exact rfl) (fun h => ?_) (fun h => ?_) <;> try (exfalso; omega))
        refine o_mk [.int .i64 (m : Int)] (by exact rfl) (by exact rfl) rfl ?_ ?_ (by simp) fun vt hvt => ?_
        · simp [Value.cells]
        · simp
        skip
        refine c_take 2 u (by exact rfl) (kids_get hhd hpu) ?_
        refine c_pick [0, 1, 0, 0, 0] (by exact rfl) ?_
        refine o_append_row (i := 0) (by exact rfl) (by exact rfl) (by exact rfl) (by exact rfl) (by exact .tail _ (.tail _ (.head _))) (by exact rfl) (by simp [Value.cells, Value.oneCell']) ?_ fun vk hvk => ?_
        · omega
        repeat' first
          | refine s_idx (by exact rfl) (by exact rfl) (by exact rfl) (by assumption) (by first | assumption | omega) ?_
        refine o_st_row (i := 1) (by exact rfl) (by exact rfl) (by exact rfl) hvk.one (by omega) ?_
        repeat' first
          | refine k_then ?_
          | refine c_region ?_
          | refine s_nil ?_
          | refine s_move (by exact rfl) (by exact rfl) ?_
          | refine s_assign (by exact rfl) (by exact rfl) ?_
          | refine s_add (by exact rfl) (by exact rfl) (by exact rfl) (by omega) ?_
          | refine k_blk ?_
        refine c_pick [0, 0, 1, 1] (by exact rfl) ?_
        have e1 : rowHP vk 3 1 (((List.range m).filter (isNext es u)).length + 1) (nV ((List.range m).filter (isNext es u)) ++ [Value.int .i64 (m : Int)]) = rowN vk ((List.range (m + 1)).filter (isNext es u)) := by
          rw [hrow]
          exact rowN_snoc _ _ _
        refine c_give 1 u (by exact rfl) (by simp [kids, hl0, hul]) ?_
        refine c_round (m + 1, hs0.set u vk) [0, 0, 0] ?_ (by exact ⟨rfl, rfl, rfl, rfl, trivial⟩) ⟨by dsimp only; omega, by simpa using hl0⟩ (by dsimp only; omega)
        dsimp only
        rw [hpart, ← kids_set (x := empHP), ← e1, Nat.mul_one]
        rfl
    · repeat' first
        | refine k_then ?_
        | refine c_seq ?_
        | refine c_region ?_
        | refine s_nil ?_
        | refine s_move (by exact rfl) (by exact rfl) ?_
        | refine s_assign (by exact rfl) (by exact rfl) ?_
        | refine s_fa (by exact rfl) (by exact rfl) ?_
        | refine s_ld_box (by exact rfl) (by exact rfl) (by exact .tail _ (.tail _ (.head _))) (by exact rfl) ?_
        | refine s_lss (by exact rfl) (by exact rfl) (by exact rfl) ?_
        | refine s_add (by exact rfl) (by exact rfl) (by exact rfl) (by omega) ?_
        | refine c_exit ?_
        | refine k_then_exit ?_
        | refine k_blk ?_
        | refine k_blk_eq ?_
        | (refine c_cond_p (by exact rfl) (fun h => ?_) (fun h => ?_) <;> try (exfalso; omega))
      obtain rfl : m = N := by omega
      refine c_round (u + 1, hs0) [0, 0, 0] ?_ (by exact ⟨rfl, rfl, rfl, trivial⟩) ⟨by dsimp only; omega, hl0⟩ (by dsimp only; omega)
      dsimp only
      rw [show (List.range m).map (part (u + 1) 0) = (List.range m).map (part u m) from by
        apply List.map_congr_left
        intro w _
        simp only [part]
        by_cases h1 : w < u
        · rw [if_pos h1, if_pos (by omega)]
        · rw [if_neg h1]
          by_cases h2 : w = u
          · rw [if_pos h2, if_pos (by omega)]
          · rw [if_neg h2, if_neg (by omega)]
            split <;> simp]
      rfl
  · repeat' first
      | refine k_then ?_
      | refine c_seq ?_
      | refine c_region ?_
      | refine s_nil ?_
      | refine s_move (by exact rfl) (by exact rfl) ?_
      | refine s_assign (by exact rfl) (by exact rfl) ?_
      | refine s_fa (by exact rfl) (by exact rfl) ?_
      | refine s_ld_box (by exact rfl) (by exact rfl) (by exact .tail _ (.tail _ (.head _))) (by exact rfl) ?_
      | refine s_lss (by exact rfl) (by exact rfl) (by exact rfl) ?_
      | refine c_exit ?_
      | refine c_ret ?_
      | refine k_then_exit ?_
      | refine k_blk_eq ?_
      | (refine c_cond_p (by exact rfl) (fun h => ?_) (fun h => ?_) <;> try (exfalso; omega))
    obtain rfl : u = N := by omega
    refine ret1 [0, 0] rfl rfl rfl ⟨hs0, hl0, ?_⟩
    rw [show (List.range u).map (part u 0) = (List.range u).map (nearS (tn es)) from by
      apply List.map_congr_left
      intro w hw
      have hw : w < u := by simpa using hw
      simp only [part]
      rw [if_pos hw, hnear w hw]]
end Go.Proofs.Ytpajjnkmaebhcaa
end
section
set_option linter.unusedVariables false
namespace Fil
/-- as the document says it: as many, and each neighbour among them -/
theorem rotB_iff {n : Int} {es : List E} {ls : List (List Int)} (hR : RightG n es) (v : Nat) : rotB n es ls v = true ↔ (ls.getD v []).length = (nearS (tn es) v).length ∧ ∀ u ∈ nearS (tn es) v, (u : Int) ∈ ls.getD v [] := by
  have hnd : (nearS (tn es) v).Nodup := (List.mergeSort_perm _ _).nodup_iff.2 (nb_nd hR.good (tn_nodup hR) v)
  have hnd2 : ((nearS (tn es) v).map fun (k : Nat) => (k : Int)).Nodup := by
    rw [List.Nodup, List.pairwise_map]
    exact hnd.imp fun h e => h (by omega)
  rw [rotB, decide_eq_true_iff]
  generalize ls.getD v [] = l
  constructor
  · intro h
    have hp := List.mergeSort_perm l fun x y => decide (x ≤ y)
    rw [h] at hp
    refine ⟨by simpa using hp.length_eq.symm, fun u hu => hp.mem_iff.1 (List.mem_map.2 ⟨u, hu, rfl⟩)⟩
  · rintro ⟨h1, h2⟩
    have hp : ((nearS (tn es) v).map fun (k : Nat) => (k : Int)).Perm l := perm_of_sub hnd2 (fun a ha => by
      obtain ⟨u, hu, rfl⟩ := List.mem_map.1 ha
      exact h2 u hu) (by simp [h1])
    have hq := (List.mergeSort_perm l fun x y => decide (x ≤ y)).trans hp.symm
    have s1 : (l.mergeSort fun x y => decide (x ≤ y)).Pairwise fun a b => a ≤ b :=
      (List.pairwise_mergeSort (fun a b c h1 h2 => by simp at *; omega) (fun a b => by simp; omega) l).imp fun h => by simpa using h
    have s2 : ((nearS (tn es) v).map fun (k : Nat) => (k : Int)).Pairwise fun a b => a ≤ b := by
      rw [List.pairwise_map]
      exact (List.pairwise_mergeSort (fun a b c h1 h2 => by simp at *; omega) (fun a b => by simp; omega) (nb (tn es) v)).imp fun h => by simp at h; omega
    exact hq.eq_of_pairwise (fun a b _ _ h1 h2 => by omega) s1 s2
end Fil
namespace Go.Proofs.Ytpajjnkmaebhcaa
open Go.RowKit Go.Sl Fil
set_option maxRecDepth 100000
set_option maxHeartbeats 8000000
set_option linter.unusedVariables false
set_option linter.unusedSimpArgs false
attribute [local irreducible] Code.wp wpList bodyPost wpQuiet Exit.then Exit.inBlock Post wpAnyH wpOp
theorem refRotRight_ok (n : Int) (v : Value) (es : List E) (vr : Value) (hr0 : List Value) (ls : List (List Int)) (w : World) (hs : Shp v es.length) (hr : RO w No v (esV es)) (hm : es.length < 4611686018427387904) (hR : ROsI w No vr hr0 ls) :
    Calls Try.prog 16 #[.agg #[.int .i64 n, v], vr] w (Post w No (Just (.int .i64 (rotK n es ls)))) := by
  have hsr := hR.shp
  have hrr := hR.ro
  have hls := hsr.1
  simp only [maxLen] at hls
  refine enter0 (vs := [_, _]) Try.func16 rfl Try.ntmps16 rfl ?_
  repeat' first
    | refine k_then ?_
    | refine c_seq ?_
    | refine c_region ?_
    | refine s_nil ?_
    | refine s_assign (by exact rfl) (by exact rfl) ?_
    | refine s_ldk_box (by exact rfl) (by exact rfl) (by exact .head _) (by exact rfl) (by exact rfl) ?_
    | refine o_box (by exact rfl) (by exact rfl) (fun b => ?_)
  refine s_call (by exact rfl) (by exact rfl) (fun w h => refRight_ok n v es w hs (ro_old h hr) hm) ?_
  repeat' first
    | refine k_then ?_
    | refine c_seq ?_
    | refine c_region ?_
    | refine s_nil ?_
    | refine s_move (by exact rfl) (by exact rfl) ?_
    | refine s_assign (by exact rfl) (by exact rfl) ?_
    | refine s_fa (by exact rfl) (by exact rfl) ?_
    | refine s_ld_box (by exact rfl) (by exact rfl) (by exact .head _) (by exact rfl) ?_
    | refine s_neq (by exact rfl) (by exact rfl) (by exact rfl) ?_
    | refine s_len (by exact rfl) (by exact rfl) (by assumption) ?_
    | refine s_ldk_box (by exact rfl) (by exact rfl) (by exact .head _) (by exact rfl) (by exact rfl) ?_
    | refine c_skip ?_
    | refine c_ret ?_
    | refine k_then_ret ?_
    | (refine c_cond_p (by exact rfl) (fun h => ?_) (fun h => ?_) <;> try (exfalso; omega))
  · refine ret1 [] rfl rfl rfl ⟨?_, rfl⟩
    rw [rotK, if_pos h]
  · rename_i h0
    have h1 := h
    refine ret1 [] rfl rfl rfl ⟨?_, rfl⟩
    rw [rotK, if_neg h0, if_pos h1]
  rename_i h0
  have h1 := h
  have hRG := right_iff.1 (Classical.byContradiction h0)
  have hln : ls.length = n.toNat := by have := hRG.lo; omega
  refine o_call (by exact rfl) (by exact rfl) (fun w h => refNear_ok n v es w hs (ro_old h hr) hRG) ?_
  rintro vn _ ⟨hn, hnl, rfl⟩
  refine know_row (v := vn) (.head _) fun hvn _ => ?_
  repeat' first
    | refine k_then ?_
    | refine c_seq ?_
    | refine c_region ?_
    | refine s_nil ?_
    | refine s_assign (by exact rfl) (by exact rfl) ?_
    | refine c_block ?_
  have hlo := hRG.lo
  have hhi := hRG.hi
  have hAl : ∀ x, (nearS (tn es) x).length ≤ 4194304 := fun x => by
    have h1 := nb_length (tn es) x
    have h2 := hRG.many
    simp only [nearS, List.length_mergeSort]
    simp only [tn, List.length_map] at h1
    simp only [tn]
    omega
  have hrotK : rotK n es ls = if (List.range n.toNat).all (rotB n es ls) then 0 else 12 := by rw [rotK, if_neg h0, if_neg h1]
  rw [hrotK]
  have hBd : ∀ x, rotB n es ls x = true ↔ (ls.getD x []).length = (nearS (tn es) x).length ∧ ∀ u ∈ nearS (tn es) x, (u : Int) ∈ ls.getD x [] := rotB_iff hRG
  generalize rotB n es ls = B at *
  generalize nearS (tn es) = A at *
  clear hrotK h1 h h0
  generalize hN : n.toNat = N at *
  have hnN : n = (N : Int) := by omega
  subst hnN
  have hbad : ∀ k, k < N → ¬ B k = true → (if (List.range N).all B then (0 : Int) else 12) = 12 := fun k hk hb => by
    rw [if_neg]
    intro hall
    exact hb (List.all_eq_true.1 hall k (List.mem_range.2 hk))
  refine c_loop (fun k : Nat => k ≤ N ∧ ∀ u, u < k → B u = true) (fun k => [(1, vr), (2, .pointer (some ⟨b, 0, none⟩)), (5, vn), (6, .int .i64 (k : Int))]) (fun _ => [rowHP vn 36 1 N hn, starHP (kids rowN hn ((List.range N).map A)), boxHP b 24 (Value.agg #[.int .i64 (N : Int), v]).cells.toList]) (fun k => N - k) 0 [0, 0, 0] ⟨Nat.zero_le _, by omega⟩ rfl ⟨rfl, rfl, rfl, rfl, trivial⟩ ?_
  rintro k ⟨hk, hq⟩
  by_cases hlt : k < N
  · obtain ⟨hx, hhx⟩ : ∃ x, hr0[k]? = some x := ⟨_, List.getElem?_eq_getElem (by have := hR.len; omega)⟩
    obtain ⟨l, hl⟩ : ∃ l, ls[k]? = some l := ⟨_, List.getElem?_eq_getElem (by omega)⟩
    obtain ⟨hsx, hrx⟩ := hR.kid k hx l hhx hl
    obtain ⟨hy, hhy⟩ : ∃ x, hn[k]? = some x := ⟨_, List.getElem?_eq_getElem (by omega)⟩
    have hAk : ((List.range N).map A)[k]? = some (A k) := by simp [hlt]
    have hgd : ls.getD k [] = l := by rw [List.getD_eq_getElem?_getD, hl]; rfl
    have h1' : hr0[k * 1]? = some hx := by rw [Nat.mul_one]; exact hhx
    have h2' : hn[k * 1]? = some hy := by rw [Nat.mul_one]; exact hhy
    have hAlk := hAl k
    have hros : ∀ w1, St w No [rowHP vn 36 1 N hn, starHP (kids rowN hn ((List.range N).map A)), boxHP b 24 (Value.agg #[.int .i64 (N : Int), v]).cells.toList] w1 → ROs w1 No vn hn ((List.range N).map A) := fun w1 h => ros_own h (.head _) (by simp) (.tail _ (.head _))
    have hkk : rowHP hy 3 1 (A k).length (nV (A k)) ∈ kids rowN hn ((List.range N).map A) := kids_mem (f := rowN) hhy hAk
    repeat' first
      | refine k_then ?_
      | refine c_seq ?_
      | refine c_region ?_
      | refine s_nil ?_
      | refine s_move (by exact rfl) (by exact rfl) ?_
      | refine s_fa (by exact rfl) (by exact rfl) ?_
      | refine s_ld_box (by exact rfl) (by exact rfl) (by exact .tail _ (.tail _ (.head _))) (by exact rfl) ?_
      | refine s_lss (by exact rfl) (by exact rfl) (by exact rfl) ?_
      | refine c_block ?_
      | refine c_skip ?_
      | (refine c_cond_p (by exact rfl) (fun h => ?_) (fun h => ?_) <;> try (exfalso; omega))
    refine know_kid (.tail _ (.head _)) hkk fun hsy _ => ?_
    refine p_begin0 [(0, true), (1, true), (2, true), (3, true), (4, true), (5, true), (6, true), (7, true), (8, true), (9, true), (10, true)] (by kernel_rfl) ?_
    repeat' first
      | refine p_nil ?_
      | (refine p_at (by exact rfl) ?_
         first
          | refine t_move (by exact rfl) (by exact rfl) (by exact fun _ h => h) ?_
          | refine t_neq (by exact rfl) (by exact rfl) (by exact rfl) (by exact fun _ h => h) ?_
          | refine t_len (by exact rfl) (by exact rfl) (by assumption) (by exact fun _ h => h) ?_
          | refine t_idx (by exact rfl) (by exact rfl) (by exact rfl) (by assumption) (by first | assumption | omega) (by exact fun _ h => h) ?_
          | refine t_ld_ro (by exact rfl) (by exact rfl) (by assumption) (by assumption) (by exact fun _ h => h) ?_
          | refine t_ld_row (by exact rfl) (by exact rfl) (by exact .head _) (by assumption) (by exact fun _ h => h) ?_)
    have hBk := hBd k
    rw [hgd] at hBk
    repeat' first
      | refine k_then ?_
      | refine c_seq ?_
      | refine c_region ?_
      | refine s_nil ?_
      | refine s_assign (by exact rfl) (by exact rfl) ?_
      | refine c_block ?_
      | refine c_skip ?_
      | refine c_ret ?_
      | refine k_then_ret ?_
      | refine k_blk_ret ?_
      | (refine c_cond_p (by exact rfl) (fun h => ?_) (fun h => ?_) <;> try (exfalso; omega))
    · refine ret1 [] rfl rfl rfl ⟨?_, rfl⟩
      rw [hbad k hlt fun hb => by have := (hBk.1 hb).1; omega]
    refine c_loop (fun j : Nat => j ≤ (A k).length ∧ ∀ u ∈ (A k).take j, (u : Int) ∈ l) (fun j => [(1, vr), (2, .pointer (some ⟨b, 0, none⟩)), (5, vn), (6, .int .i64 (k : Int)), (7, .int .i64 (j : Int))]) (fun _ => [rowHP vn 36 1 N hn, starHP (kids rowN hn ((List.range N).map A)), boxHP b 24 (Value.agg #[.int .i64 (N : Int), v]).cells.toList]) (fun j => (A k).length - j) 0 [0, 0, 0] ⟨Nat.zero_le _, by simp⟩ rfl ⟨rfl, rfl, rfl, rfl, rfl, trivial⟩ ?_
    rintro j ⟨hj, hjq⟩
    by_cases hjl : j < (A k).length
    · have h3' := nV_get hjl
      repeat' first
        | refine k_then ?_
        | refine c_seq ?_
        | refine c_region ?_
        | refine s_nil ?_
        | refine s_move (by exact rfl) (by exact rfl) ?_
        | refine s_lss (by exact rfl) (by exact rfl) (by exact rfl) ?_
        | refine s_len (by exact rfl) (by exact rfl) (by assumption) ?_
        | refine s_idx (by exact rfl) (by exact rfl) (by exact rfl) (by assumption) (by first | assumption | omega) ?_
        | refine s_ld_row (by exact rfl) (by exact rfl) (by exact .head _) (by assumption) ?_
        | refine c_block ?_
        | refine c_skip ?_
        | (refine c_cond_p (by exact rfl) (fun h => ?_) (fun h => ?_) <;> try (exfalso; omega))
      refine p_begin0 [(0, true), (1, true), (2, true), (3, true), (4, true), (5, true), (6, true), (7, true), (8, true), (9, true), (10, true), (11, false), (12, true)] (by kernel_rfl) ?_
      repeat' first
        | (refine p_at (by exact rfl) ?_
           first
            | refine t_move (by exact rfl) (by exact rfl) (by exact fun _ h => h) ?_
            | refine t_idx (by exact rfl) (by exact rfl) (by exact rfl) (by assumption) (by first | assumption | omega) (by exact fun _ h => h) ?_
            | refine t_ld_ro (by exact rfl) (by exact rfl) (by assumption) (by assumption) (by exact fun _ h => h) ?_
            | refine t_ld_row (by exact rfl) (by exact rfl) (by exact .head _) (by assumption) (by exact fun _ h => h) ?_
            | refine t_ld_kid (by exact rfl) (by exact rfl) (by assumption) (by exact .tail _ (.head _)) (by assumption) (by exact fun _ h => h) ?_)
      refine p_call (gd := none) (by exact rfl) rfl (by exact rfl) (fun w h => Has_ok hx l ((A k).getD j 0 : Nat) w hsx (ro_old h hrx)) (by exact fun _ h => h) ?_
      have hgj : (A k)[j]? = some ((A k).getD j 0) := by rw [List.getD_eq_getElem?_getD, List.getElem?_eq_getElem hjl]; rfl
      by_cases hin : ((A k).getD j 0 : Int) ∈ l
      · rw [decide_eq_true hin]
        repeat' first
          | refine p_nil ?_
          | (refine p_at (by exact rfl) ?_
             first
              | refine t_not (by exact rfl) (by exact rfl) (by exact fun _ h => h) ?_)
        repeat' first
          | refine k_then ?_
          | refine c_region ?_
          | refine s_nil ?_
          | refine s_move (by exact rfl) (by exact rfl) ?_
          | refine s_assign (by exact rfl) (by exact rfl) ?_
          | refine s_add (by exact rfl) (by exact rfl) (by exact rfl) (by omega) ?_
          | refine c_skip ?_
          | refine k_blk ?_
          | refine c_cond_f (by exact rfl) ?_
        refine c_round (j + 1) [0, 0, 0] (by exact rfl) (by exact ⟨rfl, rfl, rfl, rfl, rfl, trivial⟩) ⟨by omega, fun u hu => ?_⟩ (by omega)
        rw [List.take_add_one, hgj] at hu
        rcases List.mem_append.1 hu with hu | hu
        · exact hjq u hu
        · obtain rfl : u = (A k).getD j 0 := by simpa using hu
          exact hin
      · rw [decide_eq_false hin]
        repeat' first
          | refine p_nil ?_
          | (refine p_at (by exact rfl) ?_
             first
              | refine t_not (by exact rfl) (by exact rfl) (by exact fun _ h => h) ?_)
        repeat' first
          | refine k_then ?_
          | refine c_seq ?_
          | refine c_region ?_
          | refine s_nil ?_
          | refine s_assign (by exact rfl) (by exact rfl) ?_
          | refine c_ret ?_
          | refine k_then_ret ?_
          | refine k_blk_ret ?_
          | refine c_cond_t (by exact rfl) ?_
        refine ret1 [] rfl rfl rfl ⟨?_, rfl⟩
        rw [hbad k hlt fun hb => hin ((hBk.1 hb).2 _ (List.mem_of_getElem? hgj))]
    · repeat' first
        | refine k_then ?_
        | refine c_seq ?_
        | refine c_region ?_
        | refine s_nil ?_
        | refine s_move (by exact rfl) (by exact rfl) ?_
        | refine s_assign (by exact rfl) (by exact rfl) ?_
        | refine s_lss (by exact rfl) (by exact rfl) (by exact rfl) ?_
        | refine s_add (by exact rfl) (by exact rfl) (by exact rfl) (by omega) ?_
        | refine s_len (by exact rfl) (by exact rfl) (by assumption) ?_
        | refine s_idx (by exact rfl) (by exact rfl) (by exact rfl) (by assumption) (by first | assumption | omega) ?_
        | refine s_ld_row (by exact rfl) (by exact rfl) (by exact .head _) (by assumption) ?_
        | refine c_exit ?_
        | refine k_then_exit ?_
        | refine k_blk ?_
        | refine k_blk_eq ?_
        | (refine c_cond_p (by exact rfl) (fun h => ?_) (fun h => ?_) <;> try (exfalso; omega))
      rw [List.take_of_length_le (by omega)] at hjq
      refine c_round (k + 1) [0, 0, 0] (by exact rfl) (by exact ⟨rfl, rfl, rfl, rfl, trivial⟩) ⟨by omega, fun u hu => ?_⟩ (by omega)
      by_cases e : u = k
      · rw [e]; exact hBk.2 ⟨by omega, hjq⟩
      · exact hq u (by omega)
  · repeat' first
      | refine k_then ?_
      | refine c_seq ?_
      | refine c_region ?_
      | refine s_nil ?_
      | refine s_move (by exact rfl) (by exact rfl) ?_
      | refine s_assign (by exact rfl) (by exact rfl) ?_
      | refine s_fa (by exact rfl) (by exact rfl) ?_
      | refine s_ld_box (by exact rfl) (by exact rfl) (by exact .tail _ (.tail _ (.head _))) (by exact rfl) ?_
      | refine s_lss (by exact rfl) (by exact rfl) (by exact rfl) ?_
      | refine c_exit ?_
      | refine c_ret ?_
      | refine k_then_exit ?_
      | refine k_blk_eq ?_
      | (refine c_cond_p (by exact rfl) (fun h => ?_) (fun h => ?_) <;> try (exfalso; omega))
    refine ret1 [] rfl rfl rfl ⟨?_, rfl⟩
    rw [if_pos]
    rw [List.all_eq_true]
    intro u hu
    exact hq u (by have := List.mem_range.1 hu; omega)
end Go.Proofs.Ytpajjnkmaebhcaa
end
section
set_option linter.unusedVariables false
namespace Fil
/-- the first k rows, turned by f -/
def mapK (f : List Int → List Int) (ls : List (List Int)) (k : Nat) : List (List Int) := (ls.take k).map f ++ List.replicate (ls.length - k) []
theorem mapK_zero (f : List Int → List Int) (ls : List (List Int)) : mapK f ls 0 = List.replicate ls.length [] := by simp [mapK]
theorem mapK_all (f : List Int → List Int) (ls : List (List Int)) : mapK f ls ls.length = ls.map f := by simp [mapK]
theorem mapK_length {f : List Int → List Int} {ls : List (List Int)} {k : Nat} (h : k ≤ ls.length) : (mapK f ls k).length = ls.length := by simp [mapK]; omega
theorem mapK_at {f : List Int → List Int} {ls : List (List Int)} {k : Nat} (h : k < ls.length) : (mapK f ls k)[k]? = some [] := by
  rw [mapK, List.getElem?_append_right (by simp; omega)]
  simp
  rw [List.getElem?_replicate, if_pos (by omega)]
theorem mapK_set {f : List Int → List Int} {ls : List (List Int)} {k : Nat} {l : List Int} (h : ls[k]? = some l) : (mapK f ls k).set k (f l) = mapK f ls (k + 1) := by
  have hk := (List.getElem?_eq_some_iff.1 h).1
  have e1 : ls.length - k = (ls.length - (k + 1)) + 1 := by omega
  rw [mapK, mapK, e1, List.replicate_succ, List.set_append_right _ _ (by simp; omega), List.take_add_one, h]
  simp only [List.length_map, List.length_take, Option.toList_some, List.map_append, List.map_cons, List.map_nil, List.append_assoc]
  rw [show k - min k ls.length = 0 by omega]
  rfl
theorem mapK_nil {f : List Int → List Int} (hf : f [] = []) {ls : List (List Int)} {k : Nat} (h : ls[k]? = some []) : mapK f ls k = mapK f ls (k + 1) := by
  rw [← mapK_set h, hf]
  apply List.ext_getElem?
  intro j
  rw [List.getElem?_set]
  have hk := (List.getElem?_eq_some_iff.1 h).1
  by_cases e : k = j
  · subst e
    rw [if_pos rfl, if_pos (by rw [mapK_length (by omega)]; exact hk), mapK_at hk]
  · rw [if_neg e]
end Fil
namespace Go.Proofs.Ytpajjnkmaebhcaa
open Go Go.RowKit Go.Sl Fil
set_option maxRecDepth 100000
set_option maxHeartbeats 8000000
set_option linter.unusedVariables false
set_option linter.unusedSimpArgs false
attribute [local irreducible] Code.wp wpList bodyPost wpQuiet Exit.then Exit.inBlock Post wpAnyH wpOp
theorem ListsI_ok (a b : Value) (hx hy : List Value) (x y : List (List Int)) (w : World) (ha : ROsI w No a hx x) (hb : ROsI w No b hy y) (hxy : x = y) :
    Calls Try.prog 39 #[a, b] w (Post w No (Just (.bool true))) := by
  subst hxy
  have hsa := ha.shp
  have hsb := hb.shp
  have hra := ha.ro
  have hrb := hb.ro
  have hla := ha.len
  have hlb := hb.len
  have hm : x.length ≤ maxLen := hsa.1
  simp only [maxLen] at hm
  refine enter0 (vs := [_, _]) Try.func39 rfl Try.ntmps39 rfl ?_
  repeat' first
    | refine k_then ?_
    | refine c_seq ?_
    | refine c_region ?_
    | refine s_nil ?_
    | refine s_move (by exact rfl) (by exact rfl) ?_
    | refine s_assign (by exact rfl) (by exact rfl) ?_
    | refine s_neq (by exact rfl) (by exact rfl) (by exact rfl) ?_
    | refine s_len (by exact rfl) (by exact rfl) (by assumption) ?_
    | refine c_block ?_
    | refine c_skip ?_
    | (refine c_cond_p (by exact rfl) (fun h => ?_) (fun h => ?_) <;> try (exfalso; omega))
    | fail
  refine c_loop (fun k : Nat => k ≤ x.length) (fun k => [(0, a), (1, b), (5, .int .i64 (k : Int))]) (fun _ => []) (fun k => x.length - k) 0 [] (Nat.zero_le _) rfl ⟨rfl, rfl, rfl, trivial⟩ ?_
  rintro k hk
  by_cases hlt : k < x.length
  · obtain ⟨c, hc⟩ : ∃ c, x[k]? = some c := ⟨_, List.getElem?_eq_getElem hlt⟩
    obtain ⟨vc, hvc⟩ : ∃ c, hx[k]? = some c := ⟨_, List.getElem?_eq_getElem (by omega)⟩
    obtain ⟨vd, hvd⟩ : ∃ d, hy[k]? = some d := ⟨_, List.getElem?_eq_getElem (by omega)⟩
    obtain ⟨kc1, kc2⟩ := ha.kid k vc c hvc hc
    obtain ⟨kd1, kd2⟩ := hb.kid k vd c hvd hc
    have h1 : hx[k * 1]? = some vc := by simpa using hvc
    have h2 : hy[k * 1]? = some vd := by simpa using hvd
    repeat' first
      | refine k_then ?_
      | refine c_seq ?_
      | refine c_region ?_
      | refine s_nil ?_
      | refine s_move (by exact rfl) (by exact rfl) ?_
      | refine s_lss (by exact rfl) (by exact rfl) (by exact rfl) ?_
      | refine s_len (by exact rfl) (by exact rfl) (by assumption) ?_
      | refine c_block ?_
      | refine c_skip ?_
      | (refine c_cond_p (by exact rfl) (fun h => ?_) (fun h => ?_) <;> try (exfalso; omega))
      | fail
    refine p_begin0 [(0, true), (1, true), (2, true), (3, true), (4, true), (5, true), (6, true), (7, true), (8, false), (9, true)] (by kernel_rfl) ?_
    repeat' first
      | (refine p_at (by exact rfl) ?_
         first
          | refine t_move (by exact rfl) (by exact rfl) (by exact fun _ h => h) ?_
          | refine t_idx (by exact rfl) (by exact rfl) (by exact rfl) (by assumption) (by first | assumption | omega) (by exact fun _ h => h) ?_
          | refine t_ld_ro (by exact rfl) (by exact rfl) (by assumption) (by assumption) (by exact fun _ h => h) ?_
          | fail)
      | fail
    refine p_call (gd := none) (by exact rfl) rfl (by exact rfl) (fun w h => Ints_ok vc vd c c w kc1 kd1 (ro_old h kc2) (ro_old h kd2)) (by exact fun _ h => h) ?_
    rw [show decide (c = c) = true from decide_eq_true rfl]
    repeat' first
      | refine p_nil ?_
      | (refine p_at (by exact rfl) ?_
         first
          | refine t_not (by exact rfl) (by exact rfl) (by exact fun _ h => h) ?_
          | fail)
      | fail
    repeat' first
      | refine k_then ?_
      | refine c_region ?_
      | refine s_nil ?_
      | refine s_move (by exact rfl) (by exact rfl) ?_
      | refine s_assign (by exact rfl) (by exact rfl) ?_
      | refine s_add (by exact rfl) (by exact rfl) (by exact rfl) (by omega) ?_
      | refine c_skip ?_
      | refine k_blk ?_
      | refine c_cond_f (by exact rfl) ?_
      | fail
    refine c_round (k + 1) [] (by exact rfl) ⟨rfl, rfl, rfl, trivial⟩ (by omega) (by omega)
  · repeat' first
      | refine k_then ?_
      | refine c_seq ?_
      | refine c_region ?_
      | refine s_nil ?_
      | refine s_move (by exact rfl) (by exact rfl) ?_
      | refine s_assign (by exact rfl) (by exact rfl) ?_
      | refine s_lss (by exact rfl) (by exact rfl) (by exact rfl) ?_
      | refine s_len (by exact rfl) (by exact rfl) (by assumption) ?_
      | refine c_exit ?_
      | refine c_ret ?_
      | refine k_then_exit ?_
      | refine k_blk_eq ?_
      | (refine c_cond_p (by exact rfl) (fun h => ?_) (fun h => ?_) <;> try (exfalso; omega))
      | fail
    refine ret1 [] rfl rfl rfl ⟨rfl, rfl⟩
/-- rows of one's own, of integers -/
theorem rosI_own {w0 w : World} {S0 : FS} {L : List HP} {v : Value} {e : TypeId} {m : Nat} {hs : List Value} {ls : List (List Int)} (h : St w0 S0 L w) (hL : rowHP v e 1 m hs ∈ L) (hm : m = ls.length) (hK : starHP (kids rowI hs ls) ∈ L) : ROsI w No v hs ls := by
  obtain ⟨S, hsat⟩ := h.mem hL
  have hl : hs.length = m := by have := hsat.1; omega
  refine ⟨hm ▸ rowHP_shp hsat, by omega, RO.of_rd (rowHP_rd hsat), fun i x l h1 h2 => ?_⟩
  have hk : rowHP x 3 1 l.length (iV l) ∈ kids rowI hs ls := kids_mem (f := rowI) h1 h2
  obtain ⟨S, hsat⟩ := h.kid hK hk
  exact ⟨rowHP_shp hsat, RO.of_rd (rowHP_rd hsat)⟩
theorem rotCanon_ok (n : Int) (v : Value) (es : List E) (vr : Value) (hr0 : List Value) (ls : List (List Int)) (w : World) (hs : Shp v es.length) (hr : RO w No v (esV es)) (hm : es.length < 4611686018427387904) (hR : ROsI w No vr hr0 ls) (hN : ls.length ≤ 1048576) (hle : ∀ l ∈ ls, l.length ≤ 1048576) (hk : rotK n es ls = 0) :
    Calls Try.prog 38 #[.agg #[.int .i64 n, v], vr] w (Post w No fun r L' => ∃ (vo : Value) (ho : List Value), r = .tuple #[vo, .int .i64 0] ∧ ho.length = ls.length ∧ L' = [rowHP vo 36 1 ls.length ho, starHP (kids rowI ho (ls.map canonK))]) := by
  have hsr := hR.shp
  have hrr := hR.ro
  refine enter0 (vs := [_, _]) Try.func38 rfl Try.ntmps38 rfl ?_
  repeat' first
    | refine k_then ?_
    | refine c_seq ?_
    | refine c_region ?_
    | refine s_nil ?_
    | refine s_move (by exact rfl) (by exact rfl) ?_
    | refine s_assign (by exact rfl) (by exact rfl) ?_
    | refine s_ldk_box (by exact rfl) (by exact rfl) (by exact .head _) (by exact rfl) (by exact rfl) ?_
    | refine o_box (by exact rfl) (by exact rfl) (fun b => ?_)
    | fail
  refine s_call (by exact rfl) (by exact rfl) (fun w h => rotRight_ok n v es vr hr0 ls w hs (ro_old h hr) hm (rosI_old h hR) hle) ?_
  rw [hk]
  repeat' first
    | refine k_then ?_
    | refine c_seq ?_
    | refine c_region ?_
    | refine s_nil ?_
    | refine s_move (by exact rfl) (by exact rfl) ?_
    | refine s_assign (by exact rfl) (by exact rfl) ?_
    | refine s_neq (by exact rfl) (by exact rfl) (by exact rfl) ?_
    | refine s_len (by exact rfl) (by exact rfl) (by assumption) ?_
    | refine c_skip ?_
    | (refine c_cond_p (by exact rfl) (fun h => ?_) (fun h => ?_) <;> try (exfalso; omega))
    | fail
  refine o_make (by exact rfl) (by exact rfl) (by exact rfl) (by omega) (by omega) fun vo hvo => ?_
  repeat' first
    | refine k_then ?_
    | refine c_seq ?_
    | refine c_region ?_
    | refine s_nil ?_
    | refine s_move (by exact rfl) (by exact rfl) ?_
    | refine s_assign (by exact rfl) (by exact rfl) ?_
    | refine s_len (by exact rfl) (by exact rfl) (by assumption) ?_
    | refine c_block ?_
    | fail
  refine c_nils 3 1 ls.length ?_
  refine c_loop (fun x : Nat × List Value => x.1 ≤ ls.length ∧ x.2.length = ls.length) (fun x => [(7, vo), (20, vr), (21, .int .i64 (ls.length : Int)), (22, .int .i64 (x.1 : Int))])
    (fun x => [rowHP vo 36 1 ls.length x.2, starHP (kids rowI x.2 (mapK canonK ls x.1))]) (fun x => ls.length - x.1) (0, List.replicate ls.length (.slice none 0 0)) [1, 0] ⟨Nat.zero_le _, by simp⟩ ?_ ⟨rfl, rfl, rfl, rfl, trivial⟩ ?_
  · have z1 : (madeCells (Value.slice none 0 0).cells ((ls.length : Int).toNat * 1)).toList = List.replicate ls.length (.slice none 0 0) := by rw [made1 rfl]; rfl
    rw [z1, mapK_zero, kids_nils]
    exact rfl
  rintro ⟨k, ho⟩ ⟨hkk, hol⟩
  dsimp only at hkk hol ⊢
  by_cases hlt : k < ls.length
  · obtain ⟨hx, hhx⟩ : ∃ x, hr0[k]? = some x := ⟨_, List.getElem?_eq_getElem (by have := hR.len; omega)⟩
    obtain ⟨l, hl⟩ : ∃ l, ls[k]? = some l := ⟨_, List.getElem?_eq_getElem hlt⟩
    obtain ⟨hsx, hrx⟩ := hR.kid k hx l hhx hl
    have h1' : hr0[k * 1]? = some hx := by rw [Nat.mul_one]; exact hhx
    have hlm := hle l (List.mem_of_getElem? hl)
    by_cases hl0 : l = []
    · have hlz : l.length = 0 := by rw [hl0]; rfl
      repeat' first
        | refine k_then ?_
        | refine c_seq ?_
        | refine c_region ?_
        | refine s_nil ?_
        | refine s_move (by exact rfl) (by exact rfl) ?_
        | refine s_assign (by exact rfl) (by exact rfl) ?_
        | refine s_lss (by exact rfl) (by exact rfl) (by exact rfl) ?_
        | refine s_gtr (by exact rfl) (by exact rfl) (by exact rfl) ?_
        | refine s_add (by exact rfl) (by exact rfl) (by exact rfl) (by omega) ?_
        | refine s_len (by exact rfl) (by exact rfl) (by assumption) ?_
        | refine s_idx (by exact rfl) (by exact rfl) (by exact rfl) (by assumption) (by first | assumption | omega) ?_
        | refine s_ld_ro (by exact rfl) (by exact rfl) (by assumption) (by assumption) ?_
        | refine c_block ?_
        | refine c_skip ?_
        | refine k_blk ?_
        | (refine c_cond_p (by exact rfl) (fun h => ?_) (fun h => ?_) <;> try (exfalso; omega))
        | fail
      rw [hl0] at hl
      refine c_round (k + 1, ho) [0, 0] (by dsimp only; rw [← mapK_nil canon_nil hl]; exact rfl) ⟨rfl, rfl, rfl, rfl, trivial⟩ ⟨by dsimp only; omega, hol⟩ (by dsimp only; omega)
    · have hpos := List.length_pos_iff.2 hl0
      have hat := atK_lt hl0
      repeat' first
        | refine k_then ?_
        | refine c_seq ?_
        | refine c_region ?_
        | refine s_nil ?_
        | refine s_move (by exact rfl) (by exact rfl) ?_
        | refine s_assign (by exact rfl) (by exact rfl) ?_
        | refine s_lss (by exact rfl) (by exact rfl) (by exact rfl) ?_
        | refine s_gtr (by exact rfl) (by exact rfl) (by exact rfl) ?_
        | refine s_len (by exact rfl) (by exact rfl) (by assumption) ?_
        | refine s_idx (by exact rfl) (by exact rfl) (by exact rfl) (by assumption) (by first | assumption | omega) ?_
        | refine s_ld_ro (by exact rfl) (by exact rfl) (by assumption) (by assumption) ?_
        | refine c_block ?_
        | refine c_skip ?_
        | (refine c_cond_p (by exact rfl) (fun h => ?_) (fun h => ?_) <;> try (exfalso; omega))
        | fail
      refine s_call (by exact rfl) (by exact rfl) (fun w h => Min_ok hx l w hsx (ro_old h hrx) hl0) ?_
      refine s_call (by exact rfl) (by exact rfl) (fun w h => IndexI_ok hx l (minK l) w hsx (ro_old h hrx)) ?_
      rw [atK_idx hl0]
      dsimp only
      repeat' first
        | refine k_then ?_
        | refine s_nil ?_
        | refine s_assign (by exact rfl) (by exact rfl) ?_
        | fail
      have hc1 : Shp (cutV hx 1 (atK l) l.length) (l.drop (atK l)).length := by rw [List.length_drop]; exact hsx.cut (by omega) (Nat.le_refl _)
      have hc2 : Shp (cutV hx 1 0 (atK l)) (l.take (atK l)).length := by rw [List.length_take, show min (atK l) l.length = atK l - 0 by omega]; exact hsx.cut (Nat.zero_le _) (by omega)
      have e1 : ((iV l).drop (atK l * 1)).take ((l.length - atK l) * 1) = iV (l.drop (atK l)) := by
        rw [Nat.mul_one, Nat.mul_one, iV, iV, ← List.map_drop, List.take_of_length_le (by rw [List.length_map, List.length_drop]; omega)]
      have e2 : ((iV l).drop (0 * 1)).take ((atK l - 0) * 1) = iV (l.take (atK l)) := by
        rw [Nat.mul_one, Nat.zero_mul, List.drop_zero, iV, iV, ← List.map_take, Nat.sub_zero]
      have hfl : [l.drop (atK l), l.take (atK l)].flatten = canonK l := by simp [canonK]
      refine p_begin [(0, true), (1, true), (2, true), (3, true), (4, true), (5, true), (6, true), (7, true), (8, false), (9, false), (10, true), (11, false)] [] (by kernel_rfl) ?_
      repeat' first
        | (refine p_at (by exact rfl) ?_
           first
            | refine t_move (by exact rfl) (by exact rfl) (by exact fun _ h => h.tl.tl) ?_
            | refine t_cut_lo (by exact rfl) (by exact rfl) (by exact rfl) (by assumption) (by omega) (by exact fun _ h => h.tl.tl) ?_
            | refine t_cut_hi (by exact rfl) (by exact rfl) (by exact rfl) (by assumption) (by omega) (by exact fun _ h => h.tl.tl) ?_
            | fail)
        | fail
      refine p_mk [cutV hx 1 (atK l) l.length, cutV hx 1 0 (atK l)] (by exact rfl) rfl (by exact rfl) rfl ?_ ?_ (by simp) (fun w A h => h.pick [] (by exact rfl)) (fun vs hvs => ?_)
      · intro u hu
        simp only [List.mem_cons, List.not_mem_nil, or_false] at hu
        rcases hu with rfl | rfl
        · rw [← Array.length_toList, one_cells hc1.one]; rfl
        · rw [← Array.length_toList, one_cells hc2.one]; rfl
      · simp
      rw [show ([cutV hx 1 (atK l) l.length, cutV hx 1 0 (atK l)].flatMap fun u => u.cells.toList) = [cutV hx 1 (atK l) l.length, cutV hx 1 0 (atK l)] from by simp [one_cells hc1.one, one_cells hc2.one]]
      refine p_call' (vs := [vs]) (by exact rfl) (by exact rfl) (by exact rfl) (fun w h => Concat_ok vs [cutV hx 1 (atK l) l.length, cutV hx 1 0 (atK l)] [l.drop (atK l), l.take (atK l)] w ⟨hvs, rfl, ro_own h (.head _), fun i x l' h1 h2 => by
        match i, h1, h2 with
        | 0, h1, h2 =>
          obtain rfl : cutV hx 1 (atK l) l.length = x := by simpa using h1
          obtain rfl : l.drop (atK l) = l' := by simpa using h2
          exact ⟨hc1, e1 ▸ (ro_old h hrx).cut hsx (by omega) (Nat.le_refl _)⟩
        | 1, h1, h2 =>
          obtain rfl : cutV hx 1 0 (atK l) = x := by simpa using h1
          obtain rfl : l.take (atK l) = l' := by simpa using h2
          exact ⟨hc2, e2 ▸ (ro_old h hrx).cut hsx (Nat.zero_le _) (by omega)⟩
        | i + 2, h1, h2 => simp at h1⟩ (by simp) (fun j => by
          have h3 : ([l.drop (atK l), l.take (atK l)].take j).flatten.length ≤ [l.drop (atK l), l.take (atK l)].flatten.length := by
            conv => rhs; rw [← List.take_append_drop j [l.drop (atK l), l.take (atK l)], List.flatten_append, List.length_append]
            exact Nat.le_add_right _ _
          rw [hfl, canon_length] at h3
          omega)) ?_
      rintro vk _ rfl
      refine ⟨fun _ h => h.pick [] (by exact rfl), ?_⟩
      rw [hfl]
      refine know_rowP (v := vk) (.head _) fun hvk _ => ?_
      repeat' first
        | (refine p_at (by exact rfl) ?_
           first
            | refine t_idx (by exact rfl) (by exact rfl) (by exact rfl) (by assumption) (by first | assumption | omega) (by exact fun _ h => h.tl.tl.tl.tl) ?_
            | fail)
        | fail
      refine p_st_row (j := 2) (by exact rfl) (by exact rfl) (by exact rfl) (by exact rfl) hvk.one (by omega) (fun w h => h.pick [] (by exact rfl)) ?_
      repeat' first
        | refine p_nil ?_
        | fail
      repeat' first
        | refine k_then ?_
        | refine c_region ?_
        | refine s_nil ?_
        | refine s_move (by exact rfl) (by exact rfl) ?_
        | refine s_add (by exact rfl) (by exact rfl) (by exact rfl) (by omega) ?_
        | refine k_blk ?_
        | fail
      refine c_pick [0, 1, 1] (by exact rfl) ?_
      refine c_give 1 k (by exact rfl) (by rw [kids_length (by rw [mapK_length hkk]; exact hol), mapK_length hkk]; exact hlt) ?_
      refine c_round (k + 1, ho.set k vk) [0, 0] ?_ ⟨rfl, rfl, rfl, rfl, trivial⟩ ⟨by dsimp only; omega, by dsimp only; rw [List.length_set]; exact hol⟩ (by dsimp only; omega)
      dsimp only
      rw [Nat.mul_one, ← mapK_set hl, ← kids_put]
      exact rfl
  · repeat' first
      | refine k_then ?_
      | refine c_seq ?_
      | refine c_region ?_
      | refine s_nil ?_
      | refine s_move (by exact rfl) (by exact rfl) ?_
      | refine s_assign (by exact rfl) (by exact rfl) ?_
      | refine s_lss (by exact rfl) (by exact rfl) (by exact rfl) ?_
      | refine c_exit ?_
      | refine c_ret ?_
      | refine k_then_exit ?_
      | refine k_blk_eq ?_
      | (refine c_cond_p (by exact rfl) (fun h => ?_) (fun h => ?_) <;> try (exfalso; omega))
      | fail
    obtain rfl : k = ls.length := by omega
    refine retL [.tmp 4, .tmp 5] [vo, .int .i64 0] [0, 0] rfl ⟨res_tmp rfl, res_tmp rfl, trivial⟩ (by exact rfl) ⟨vo, ho, rfl, hol, ?_⟩
    rw [mapK_all]
theorem refCanon_ok (vr : Value) (hr0 : List Value) (ls : List (List Int)) (w : World) (hR : ROsI w No vr hr0 ls) (hN : ls.length ≤ 1048576) (hle : ∀ l ∈ ls, l.length ≤ 1048576) :
    Calls Try.prog 41 #[vr] w (Post w No fun r L' => ∃ ho : List Value, ho.length = ls.length ∧ L' = [rowHP r 36 1 ls.length ho, starHP (kids rowI ho (ls.map canonK))]) := by
  have hsr := hR.shp
  have hrr := hR.ro
  refine enter0 (vs := [_]) Try.func41 rfl Try.ntmps41 rfl ?_
  repeat' first
    | refine k_then ?_
    | refine c_seq ?_
    | refine c_region ?_
    | refine s_nil ?_
    | refine s_move (by exact rfl) (by exact rfl) ?_
    | refine s_assign (by exact rfl) (by exact rfl) ?_
    | refine s_len (by exact rfl) (by exact rfl) (by assumption) ?_
    | fail
  refine o_make (by exact rfl) (by exact rfl) (by exact rfl) (by omega) (by omega) fun vo hvo => ?_
  repeat' first
    | refine k_then ?_
    | refine c_seq ?_
    | refine c_region ?_
    | refine s_nil ?_
    | refine s_assign (by exact rfl) (by exact rfl) ?_
    | refine c_block ?_
    | fail
  refine c_nils 3 1 ls.length ?_
  refine c_loop (fun x : Nat × List Value => x.1 ≤ ls.length ∧ x.2.length = ls.length) (fun x => [(0, vr), (3, vo), (4, .int .i64 (x.1 : Int))])
    (fun x => [rowHP vo 36 1 ls.length x.2, starHP (kids rowI x.2 (mapK canonK ls x.1))]) (fun x => ls.length - x.1) (0, List.replicate ls.length (.slice none 0 0)) [1, 0] ⟨Nat.zero_le _, by simp⟩ ?_ ⟨rfl, rfl, rfl, trivial⟩ ?_
  · have z1 : (madeCells (Value.slice none 0 0).cells ((ls.length : Int).toNat * 1)).toList = List.replicate ls.length (.slice none 0 0) := by rw [made1 rfl]; rfl
    rw [z1, mapK_zero, kids_nils]
    exact rfl
  rintro ⟨k, ho⟩ ⟨hk, hol⟩
  dsimp only at hk hol ⊢
  by_cases hlt : k < ls.length
  · obtain ⟨hx, hhx⟩ : ∃ x, hr0[k]? = some x := ⟨_, List.getElem?_eq_getElem (by have := hR.len; omega)⟩
    obtain ⟨l, hl⟩ : ∃ l, ls[k]? = some l := ⟨_, List.getElem?_eq_getElem hlt⟩
    obtain ⟨hsx, hrx⟩ := hR.kid k hx l hhx hl
    have h1' : hr0[k * 1]? = some hx := by rw [Nat.mul_one]; exact hhx
    have hml := mapK_length (f := canonK) hk
    have hlm := hle l (List.mem_of_getElem? hl)
    repeat' first
      | refine k_then ?_
      | refine c_seq ?_
      | refine c_region ?_
      | refine s_nil ?_
      | refine s_move (by exact rfl) (by exact rfl) ?_
      | refine s_assign (by exact rfl) (by exact rfl) ?_
      | refine s_lss (by exact rfl) (by exact rfl) (by exact rfl) ?_
      | refine s_len (by exact rfl) (by exact rfl) (by assumption) ?_
      | refine c_block ?_
      | refine c_skip ?_
      | (refine c_cond_p (by exact rfl) (fun h => ?_) (fun h => ?_) <;> try (exfalso; omega))
      | fail
    refine c_loop (fun x : Nat × Nat => x.1 ≤ l.length ∧ (x.1 = 0 → x.2 = 0) ∧ (0 < x.1 → x.2 < x.1) ∧ (∀ j, j < x.1 → l.getD x.2 0 ≤ l.getD j 0) ∧ ∀ j, j < x.2 → l.getD x.2 0 < l.getD j 0) (fun x => [(0, vr), (3, vo), (4, .int .i64 (k : Int)), (5, .int .i64 (x.2 : Int)), (6, .int .i64 (x.1 : Int))])
      (fun _ => [rowHP vo 36 1 ls.length ho, starHP (kids rowI ho (mapK canonK ls k))]) (fun x => l.length - x.1) (0, 0) [0, 0] ⟨Nat.zero_le _, fun _ => rfl, fun h => by simp at h, fun j h => by simp at h, fun j h => by simp at h⟩ (by exact rfl) ⟨rfl, rfl, rfl, rfl, rfl, trivial⟩ ?_
    rintro ⟨i, at1⟩ ⟨hi, hz, hp, hq1, hq2⟩
    dsimp only at hi hz hp hq1 hq2 ⊢
    by_cases hil : i < l.length
    · have hal : at1 < l.length := by
        by_cases h0 : i = 0
        · rw [hz h0]; omega
        · have := hp (by omega); omega
      have g1 := iV_get hil
      have g2 := iV_get hal
      repeat' first
        | refine k_then ?_
        | refine c_seq ?_
        | refine c_region ?_
        | refine s_nil ?_
        | refine s_move (by exact rfl) (by exact rfl) ?_
        | refine s_lss (by exact rfl) (by exact rfl) (by exact rfl) ?_
        | refine s_len (by exact rfl) (by exact rfl) (by assumption) ?_
        | refine s_idx (by exact rfl) (by exact rfl) (by exact rfl) (by assumption) (by first | assumption | omega) ?_
        | refine s_ld_ro (by exact rfl) (by exact rfl) (by assumption) (by assumption) ?_
        | refine c_block ?_
        | refine c_skip ?_
        | (refine c_cond_p (by exact rfl) (fun h => ?_) (fun h => ?_) <;> try (exfalso; omega))
        | fail
      refine p_begin0 [(0, true), (1, true), (2, true), (3, true), (4, true), (5, true), (6, true), (7, true), (8, true), (9, true), (10, true), (11, true), (12, true), (13, true), (14, true)] (by kernel_rfl) ?_
      repeat' first
        | refine p_nil ?_
        | (refine p_at (by exact rfl) ?_
           first
            | refine t_move (by exact rfl) (by exact rfl) (by exact fun _ h => h) ?_
            | refine t_lss (by exact rfl) (by exact rfl) (by exact rfl) (by exact fun _ h => h) ?_
            | refine t_idx (by exact rfl) (by exact rfl) (by exact rfl) (by assumption) (by first | assumption | omega) (by exact fun _ h => h) ?_
            | refine t_ld_ro (by exact rfl) (by exact rfl) (by assumption) (by assumption) (by exact fun _ h => h) ?_
            | fail)
        | fail
      repeat' first
        | refine k_then ?_
        | refine c_region ?_
        | refine s_nil ?_
        | refine s_move (by exact rfl) (by exact rfl) ?_
        | refine s_assign (by exact rfl) (by exact rfl) ?_
        | refine s_add (by exact rfl) (by exact rfl) (by exact rfl) (by omega) ?_
        | refine c_skip ?_
        | refine k_blk ?_
        | (refine c_cond_p (by exact rfl) (fun h => ?_) (fun h => ?_) <;> try (exfalso; omega))
        | fail
      · refine c_round (i + 1, i) [0, 0] (by exact rfl) ⟨rfl, rfl, rfl, rfl, rfl, trivial⟩ ⟨by dsimp only; omega, fun h => by simp at h, fun _ => by dsimp only; omega, fun j hj => ?_, fun j hj => ?_⟩ (by dsimp only; omega)
        · dsimp only at hj ⊢
          by_cases e : j = i
          · rw [e]; exact Int.le_refl _
          · have := hq1 j (by omega); omega
        · dsimp only at hj ⊢
          have := hq1 j (by omega); omega
      · refine c_round (i + 1, at1) [0, 0] (by exact rfl) ⟨rfl, rfl, rfl, rfl, rfl, trivial⟩ ⟨by dsimp only; omega, fun h => by simp at h, fun _ => ?_, fun j hj => ?_, hq2⟩ (by dsimp only; omega)
        · dsimp only
          by_cases h0 : i = 0
          · rw [hz h0]; omega
          · have := hp (by omega); omega
        · dsimp only at hj ⊢
          by_cases e : j = i
          · rw [e]; omega
          · exact hq1 j (by omega)
    · obtain rfl : i = l.length := by omega
      have hatk : l ≠ [] → at1 = atK l := fun hl0 => by
        refine (atK_of (hp (List.length_pos_iff.2 hl0)) (fun y hy => ?_) hq2).symm
        obtain ⟨j, hj, rfl⟩ := List.getElem_of_mem hy
        have := hq1 j hj
        rwa [List.getD_eq_getElem?_getD (l := l) (i := j), List.getElem?_eq_getElem hj] at this
      repeat' first
        | refine k_then ?_
        | refine c_seq ?_
        | refine c_region ?_
        | refine s_nil ?_
        | refine s_move (by exact rfl) (by exact rfl) ?_
        | refine s_assign (by exact rfl) (by exact rfl) ?_
        | refine s_lss (by exact rfl) (by exact rfl) (by exact rfl) ?_
        | refine s_len (by exact rfl) (by exact rfl) (by assumption) ?_
        | refine s_idx (by exact rfl) (by exact rfl) (by exact rfl) (by assumption) (by first | assumption | omega) ?_
        | refine s_ld_ro (by exact rfl) (by exact rfl) (by assumption) (by assumption) ?_
        | refine c_block ?_
        | refine c_exit ?_
        | refine k_then_exit ?_
        | refine k_blk_eq ?_
        | (refine c_cond_p (by exact rfl) (fun h => ?_) (fun h => ?_) <;> try (exfalso; omega))
        | fail
      refine c_loop (fun x : Nat × List Value => x.1 ≤ l.length ∧ x.2.length = ls.length) (fun x => [(0, vr), (3, vo), (4, .int .i64 (k : Int)), (5, .int .i64 (at1 : Int)), (7, .int .i64 (x.1 : Int))])
        (fun x => [rowHP vo 36 1 ls.length x.2, starHP (kids rowI x.2 ((mapK canonK ls k).set k ((canonK l).take x.1)))]) (fun x => l.length - x.1) (0, ho) [0, 0] ⟨Nat.zero_le _, hol⟩ ?_ ⟨rfl, rfl, rfl, rfl, rfl, trivial⟩ ?_
      · rw [List.take_zero, show (mapK canonK ls k).set k [] = mapK canonK ls k from List.ext_getElem? fun j => by
          rw [List.getElem?_set]
          by_cases e : k = j
          · subst e
            rw [if_pos rfl, if_pos (by rw [hml]; exact hlt), mapK_at hlt]
          · rw [if_neg e]]
        exact rfl
      rintro ⟨j, hj⟩ ⟨hjl, hjo⟩
      dsimp only at hjl hjo ⊢
      by_cases hjk : j < l.length
      · have hl0 : l ≠ [] := by intro e; rw [e] at hjk; simp at hjk
        obtain rfl := hatk hl0
        have hatl := atK_lt hl0
        have hmm : (atK l + j) % l.length < l.length := Nat.mod_lt _ (by omega)
        have hmod : ((atK l : Int) + (j : Int)) % (l.length : Int) = (((atK l + j) % l.length : Nat) : Int) := by simp
        have htk : (canonK l).take (j + 1) = (canonK l).take j ++ [l.getD ((atK l + j) % l.length) 0] := by
          rw [List.take_add_one, canon_take hjk]; rfl
        have hln : ((canonK l).take j).length = j := by rw [List.length_take, canon_length]; omega
        have g1 := iV_get hmm
        obtain ⟨hd, hhd⟩ : ∃ hd, hj[k * 1]? = some hd := ⟨_, List.getElem?_eq_getElem (by omega)⟩
        have hkid : ((mapK canonK ls k).set k ((canonK l).take j))[k]? = some ((canonK l).take j) := by rw [List.getElem?_set, if_pos rfl, if_pos (by omega)]
        generalize hjj : (atK l + j) % l.length = j2 at *
        repeat' first
          | refine k_then ?_
          | refine c_seq ?_
          | refine c_region ?_
          | refine s_nil ?_
          | refine s_move (by exact rfl) (by exact rfl) ?_
          | refine s_lss (by exact rfl) (by exact rfl) (by exact rfl) ?_
          | refine s_len (by exact rfl) (by exact rfl) (by assumption) ?_
          | refine s_idx (by exact rfl) (by exact rfl) (by exact rfl) (by assumption) (by first | assumption | omega) ?_
          | refine s_ld_ro (by exact rfl) (by exact rfl) (by assumption) (by assumption) ?_
          | refine c_block ?_
          | refine c_skip ?_
          | (refine c_cond_p (by exact rfl) (fun h => ?_) (fun h => ?_) <;> try (exfalso; omega))
          | fail
        refine c_take 1 k (by exact rfl) (kids_get (f := rowI) (by simpa using hhd) hkid) ?_
        refine p_begin [(0, true), (1, true), (2, true), (3, true), (4, true), (6, true), (7, true), (8, true), (9, true), (10, true), (11, true), (12, true), (13, true), (14, true), (15, true), (16, true), (17, true), (18, true), (19, true), (20, true), .rd 5 21, (22, false), (23, true), (24, false)] [] (by kernel_rfl) ?_
        repeat' first
          | (refine p_at (by exact rfl) ?_
             first
              | refine t_move (by exact rfl) (by exact rfl) (by exact fun _ h => h.tl.tl.tl) ?_
              | refine t_add (by exact rfl) (by exact rfl) (by exact rfl) (by omega) (by exact fun _ h => h.tl.tl.tl) ?_
              | refine t_rem (by exact rfl) (by exact rfl) (by exact rfl) (by omega) (by exact fun _ h => h.tl.tl.tl) ?_
              | refine t_len (by exact rfl) (by exact rfl) (by assumption) (by exact fun _ h => h.tl.tl.tl) ?_
              | refine t_idx (by exact rfl) (by exact rfl) (by exact rfl) (by assumption) (by first | assumption | omega) (by exact fun _ h => h.tl.tl.tl) ?_
              | refine t_idxi (by exact rfl) (by exact rfl) (by exact rfl) (by assumption) (by first | assumption | omega) (by exact fun _ h => h.tl.tl.tl) ?_
              | refine t_ld_ro (by exact rfl) (by exact rfl) (by assumption) (by assumption) (by exact fun _ h => h.tl.tl.tl) ?_
              | fail)
          | fail
        rw [hmod]
        repeat' first
          | (refine p_at (by exact rfl) ?_
             first
              | refine t_ld_ro (by exact rfl) (by exact rfl) (by assumption) (by assumption) (by exact fun _ h => h.tl.tl.tl) ?_
              | fail)
          | fail
        refine p_rd ?_ ?_
        all_goals
          repeat' first
            | (refine p_at (by exact rfl) ?_
               first
                | refine r_ld_row (by exact rfl) (by exact rfl) (by exact .tail _ (.head _)) (by assumption) (by exact fun _ h => h.tl.tl.tl) ?_
                | fail)
            | fail
          refine p_mk [_] (by exact rfl) rfl (by exact rfl) rfl ?_ ?_ (by simp) (fun w A h => h.pick [] (by exact rfl)) (fun sx hsx => ?_)
          · simp [Value.cells]
          · simp
          repeat' first
            | (refine p_at (by exact rfl) ?_
               first
                | refine r_ld_row (by exact rfl) (by exact rfl) (by exact .tail _ (.tail _ (.head _))) (by assumption) (by exact fun _ h => h.tl.tl.tl.tl) ?_
                | fail)
            | fail
          refine p_append_row (j := 1) (by exact rfl) rfl (by exact rfl) (by exact rfl) (by exact rfl) (by exact .head _) (by exact rfl) (by simp [Value.cells, Value.oneCell']) ?_ (fun w v h => h.pick [] (by exact rfl)) (fun vk hvk => ?_)
          · simp only [List.length_cons, List.length_nil]; omega
          repeat' first
            | (refine p_at (by exact rfl) ?_
               first
                | refine t_idx (by exact rfl) (by exact rfl) (by exact rfl) (by assumption) (by first | assumption | omega) (by exact fun _ h => h.tl.tl.tl.tl) ?_
                | fail)
            | fail
          refine p_st_row (j := 2) (by exact rfl) (by exact rfl) (by exact rfl) (by exact rfl) hvk.one (by omega) (fun w h => h.pick [] (by exact rfl)) ?_
          repeat' first
            | refine p_nil ?_
            | fail
          repeat' first
            | refine k_then ?_
            | refine c_region ?_
            | refine s_nil ?_
            | refine s_move (by exact rfl) (by exact rfl) ?_
            | refine s_assign (by exact rfl) (by exact rfl) ?_
            | refine s_add (by exact rfl) (by exact rfl) (by exact rfl) (by omega) ?_
            | refine k_blk ?_
            | fail
          refine c_pick [1, 1, 1] (by exact rfl) ?_
          have e2 : rowHP vk 3 1 (((canonK l).take j).length + 1) (iV ((canonK l).take j) ++ [Value.int .i64 (l.getD j2 0)]) = rowI vk ((canonK l).take (j + 1)) := by
            rw [htk, rowI, List.length_append, show ∀ a b : List Int, iV (a ++ b) = iV a ++ iV b from fun a b => by simp [iV]]; rfl
          refine c_give 1 k (by exact rfl) (by simp [kids, hjo, hml]; omega) ?_
          refine c_round (j + 1, hj.set k vk) [0, 0] ?_ ⟨rfl, rfl, rfl, rfl, rfl, trivial⟩ ⟨by dsimp only; omega, by dsimp only; rw [List.length_set]; exact hjo⟩ (by dsimp only; omega)
          dsimp only
          rw [show (mapK canonK ls k).set k ((canonK l).take (j + 1)) = ((mapK canonK ls k).set k ((canonK l).take j)).set k ((canonK l).take (j + 1)) from by rw [List.set_set], ← kids_set (x := empHP), ← e2, Nat.mul_one]
          exact rfl
      · repeat' first
          | refine k_then ?_
          | refine c_seq ?_
          | refine c_region ?_
          | refine s_nil ?_
          | refine s_move (by exact rfl) (by exact rfl) ?_
          | refine s_assign (by exact rfl) (by exact rfl) ?_
          | refine s_lss (by exact rfl) (by exact rfl) (by exact rfl) ?_
          | refine s_add (by exact rfl) (by exact rfl) (by exact rfl) (by omega) ?_
          | refine s_len (by exact rfl) (by exact rfl) (by assumption) ?_
          | refine s_idx (by exact rfl) (by exact rfl) (by exact rfl) (by assumption) (by first | assumption | omega) ?_
          | refine s_ld_ro (by exact rfl) (by exact rfl) (by assumption) (by assumption) ?_
          | refine c_exit ?_
          | refine k_then_exit ?_
          | refine k_blk ?_
          | refine k_blk_eq ?_
          | (refine c_cond_p (by exact rfl) (fun h => ?_) (fun h => ?_) <;> try (exfalso; omega))
          | fail
        refine c_round (k + 1, hj) [0, 0] ?_ ⟨rfl, rfl, rfl, trivial⟩ ⟨by dsimp only; omega, hjo⟩ (by dsimp only; omega)
        dsimp only
        rw [List.take_of_length_le (by rw [canon_length]; omega), mapK_set hl]
        exact rfl
  · repeat' first
      | refine k_then ?_
      | refine c_seq ?_
      | refine c_region ?_
      | refine s_nil ?_
      | refine s_move (by exact rfl) (by exact rfl) ?_
      | refine s_assign (by exact rfl) (by exact rfl) ?_
      | refine s_lss (by exact rfl) (by exact rfl) (by exact rfl) ?_
      | refine s_len (by exact rfl) (by exact rfl) (by assumption) ?_
      | refine c_exit ?_
      | refine c_ret ?_
      | refine k_then_exit ?_
      | refine k_blk_eq ?_
      | (refine c_cond_p (by exact rfl) (fun h => ?_) (fun h => ?_) <;> try (exfalso; omega))
      | fail
    obtain rfl : k = ls.length := by omega
    refine ret1 [0, 0] rfl rfl rfl ⟨ho, hol, ?_⟩
    rw [mapK_all]
end Go.Proofs.Ytpajjnkmaebhcaa
end
section
set_option linter.unusedVariables false
namespace Go.Proofs.Ytpajjnkmaebhcaa
open Go Go.RowKit Go.Sl Fil
set_option maxRecDepth 100000
set_option maxHeartbeats 8000000
set_option linter.unusedVariables false
set_option linter.unusedSimpArgs false
attribute [local irreducible] Code.wp wpList bodyPost wpQuiet Exit.then Exit.inBlock Post wpAnyH wpOp
theorem rotCanon_no (n : Int) (v : Value) (es : List E) (vr : Value) (hr0 : List Value) (ls : List (List Int)) (w : World) (hs : Shp v es.length) (hr : RO w No v (esV es)) (hm : es.length < 4611686018427387904) (hR : ROsI w No vr hr0 ls) (hlen : ∀ l ∈ ls, l.length ≤ 1048576) (hk : rotK n es ls ≠ 0) :
    Calls Try.prog 38 #[.agg #[.int .i64 n, v], vr] w (Post w No (Just (.tuple #[.slice none 0 0, .int .i64 (rotK n es ls)]))) := by
  have hsr := hR.shp
  have hrr := hR.ro
  refine enter0 (vs := [_, _]) Try.func38 rfl Try.ntmps38 rfl ?_
  repeat' first
    | refine k_then ?_
    | refine c_seq ?_
    | refine c_region ?_
    | refine s_nil ?_
    | refine s_move (by exact rfl) (by exact rfl) ?_
    | refine s_assign (by exact rfl) (by exact rfl) ?_
    | refine s_ldk_box (by exact rfl) (by exact rfl) (by exact .head _) (by exact rfl) (by exact rfl) ?_
    | refine o_box (by exact rfl) (by exact rfl) (fun b => ?_)
    | fail
  refine s_call (by exact rfl) (by exact rfl) (fun w h => rotRight_ok n v es vr hr0 ls w hs (ro_old h hr) hm (rosI_old h hR) hlen) ?_
  repeat' first
    | refine k_then ?_
    | refine c_seq ?_
    | refine c_region ?_
    | refine s_nil ?_
    | refine s_move (by exact rfl) (by exact rfl) ?_
    | refine s_assign (by exact rfl) (by exact rfl) ?_
    | refine s_neq (by exact rfl) (by exact rfl) (by exact rfl) ?_
    | refine c_ret ?_
    | refine k_then_ret ?_
    | (refine c_cond_p (by exact rfl) (fun h => ?_) (fun h => ?_) <;> try (exfalso; omega))
    | fail
  refine retL [.tmp 4, .tmp 5] [.slice none 0 0, .int .i64 (rotK n es ls)] [] rfl ⟨res_tmp rfl, res_tmp rfl, trivial⟩ (by exact rfl) ⟨rfl, rfl⟩
theorem RotationCanon_ok (n : Int) (v : Value) (es : List E) (vr : Value) (hr0 : List Value) (ls : List (List Int)) (w : World) (hs : Shp v es.length) (hr : RO w No v (esV es)) (hR : ROsI w No vr hr0 ls) (hlen : ∀ l ∈ ls, l.length ≤ 17592186044416) :
    Calls Try.prog 12 #[.agg #[.int .i64 n, v], vr] w (Post w No (Just (.bool true))) := by
  refine enter0 (vs := [_, _]) Try.func12 rfl Try.ntmps12 rfl ?_
  repeat' first
    | refine k_then ?_
    | refine c_seq ?_
    | refine c_region ?_
    | refine s_nil ?_
    | refine s_move (by exact rfl) (by exact rfl) ?_
    | refine s_assign (by exact rfl) (by exact rfl) ?_
    | refine s_ldk_box (by exact rfl) (by exact rfl) (by exact .head _) (by exact rfl) (by exact rfl) ?_
    | refine o_box (by exact rfl) (by exact rfl) (fun b => ?_)
    | fail
  refine s_call (by exact rfl) (by exact rfl) (fun w h => Light7_ok n v es.length vr hr0 ls 30 w hs (rosI_old h hR) hlen (by omega)) ?_
  cases hl : light7 n es.length ls 30
  · repeat' first
      | refine k_then ?_
      | refine c_seq ?_
      | refine c_region ?_
      | refine s_nil ?_
      | refine s_not (by exact rfl) (by exact rfl) ?_
      | refine c_cond_t (by exact rfl) ?_
      | fail
    refine s_call (vs := []) (by exact rfl) (by exact rfl) (fun w h => alive07_ok w) ?_
    repeat' first
      | refine k_then ?_
      | refine s_nil ?_
      | refine s_assign (by exact rfl) (by exact rfl) ?_
      | refine c_ret ?_
      | refine k_then_ret ?_
      | fail
    refine ret1 [] rfl rfl (by exact rfl) ⟨rfl, rfl⟩
  obtain ⟨l1, l2, l3, l4⟩ := light7_t hl
  have hle : ∀ l ∈ ls, l.length ≤ 1048576 := fun l hl => by have := l4 l hl; omega
  have hml : (ls.map List.reverse).length = ls.length := by simp
  have hcl : (ls.map canonK).length = ls.length := by simp
  repeat' first
    | refine k_then ?_
    | refine c_seq ?_
    | refine c_region ?_
    | refine s_nil ?_
    | refine s_move (by exact rfl) (by exact rfl) ?_
    | refine s_not (by exact rfl) (by exact rfl) ?_
    | refine s_ldk_box (by exact rfl) (by exact rfl) (by exact .head _) (by exact rfl) (by exact rfl) ?_
    | refine c_skip ?_
    | refine c_cond_f (by exact rfl) ?_
    | fail
  by_cases hk : rotK n es ls = 0
  · refine o_call (by exact rfl) (by exact rfl) (fun w h => rotCanon_ok n v es vr hr0 ls w hs (ro_old h hr) (by omega) (rosI_old h hR) (by omega) hle hk) ?_
    rintro _ _ ⟨vc, hc, rfl, hcl2, rfl⟩
    repeat' first
      | refine k_then ?_
      | refine c_seq ?_
      | refine c_region ?_
      | refine s_nil ?_
      | refine s_move (by exact rfl) (by exact rfl) ?_
      | refine s_assign (by exact rfl) (by exact rfl) ?_
      | refine s_extract (by exact rfl) (by exact rfl) (by exact rfl) ?_
      | fail
    refine o_call (by exact rfl) (by exact rfl) (fun w h => rotMirror_ok vr hr0 ls w (rosI_old h hR) (by omega) hle) ?_
    rintro vm _ ⟨hm, hml1, rfl⟩
    repeat' first
      | refine s_move (by exact rfl) (by exact rfl) ?_
      | fail
    refine o_call (by exact rfl) (by exact rfl) (fun w h => refMirror_ok vr hr0 ls w (rosI_old h hR) (by omega) hle) ?_
    rintro vm2 _ ⟨hm2, hml2, rfl⟩
    skip
    refine s_call (by exact rfl) (by exact rfl) (fun w h => ListsI_ok vm vm2 hm hm2 _ _ w (rosI_own h (.tail _ (.tail _ (.head _))) hml.symm (.tail _ (.tail _ (.tail _ (.head _))))) (rosI_own h (.head _) hml.symm (.tail _ (.head _))) rfl) ?_
    repeat' first
      | refine k_then ?_
      | refine c_seq ?_
      | refine c_region ?_
      | refine s_nil ?_
      | refine s_move (by exact rfl) (by exact rfl) ?_
      | refine s_not (by exact rfl) (by exact rfl) ?_
      | refine s_ldk_box (by exact rfl) (by exact rfl) (by exact .tail _ (.tail _ (.tail _ (.tail _ (.tail _ (.tail _ (.head _))))))) (by exact rfl) (by exact rfl) ?_
      | refine c_skip ?_
      | refine c_cond_f (by exact rfl) ?_
      | fail
    refine s_call (by exact rfl) (by exact rfl) (fun w h => refRotRight_ok n v es vr hr0 _ w hs (ro_old h hr) (by omega) (rosI_old h hR)) ?_
    rw [hk]
    repeat' first
      | refine k_then ?_
      | refine c_seq ?_
      | refine c_region ?_
      | refine s_nil ?_
      | refine s_move (by exact rfl) (by exact rfl) ?_
      | refine s_assign (by exact rfl) (by exact rfl) ?_
      | refine s_eql (by exact rfl) (by exact rfl) (by exact rfl) ?_
      | refine s_neq (by exact rfl) (by exact rfl) (by exact rfl) ?_
      | refine c_skip ?_
      | (refine c_cond_p (by exact rfl) (fun h => ?_) (fun h => ?_) <;> try (exfalso; omega))
      | (refine g_case (by exact rfl) (by exact rfl) (fun h => ?_) (fun h => ?_) <;> try (exfalso; omega))
      | refine w_move (by exact rfl) (by exact rfl) (by exact rfl) (by exact rfl) ?_
      | refine g_on (by exact rfl) (by exact rfl) ?_
      | fail
    refine o_call (by exact rfl) (by exact rfl) (fun w h => refCanon_ok vr hr0 ls w (rosI_old h hR) (by omega) hle) ?_
    rintro vd _ ⟨hd, hdl, rfl⟩
    repeat' first
      | refine g_on (by exact rfl) (by exact rfl) ?_
      | fail
    refine s_call (by exact rfl) (by exact rfl) (fun w h => ListsI_ok vc vd hc hd _ _ w (rosI_own h (.tail _ (.tail _ (.tail _ (.tail _ (.tail _ (.tail _ (.head _))))))) hcl.symm (.tail _ (.tail _ (.tail _ (.tail _ (.tail _ (.tail _ (.tail _ (.head _))))))))) (rosI_own h (.head _) hcl.symm (.tail _ (.head _))) rfl) ?_
    repeat' first
      | refine s_move (by exact rfl) (by exact rfl) ?_
      | refine s_pick_t (by exact rfl) (by exact rfl) (by exact rfl) ?_
      | refine g_on (by exact rfl) (by exact rfl) ?_
      | fail
    refine s_call (vs := []) (by exact rfl) (by exact rfl) (fun w h => alive07_ok w) ?_
    repeat' first
      | refine k_then ?_
      | refine s_nil ?_
      | refine s_assign (by exact rfl) (by exact rfl) ?_
      | refine s_pick_t (by exact rfl) (by exact rfl) (by exact rfl) ?_
      | refine c_ret ?_
      | fail
    refine ret1 [] rfl rfl (by exact rfl) ⟨rfl, rfl⟩
  · have hnone : Shp (.slice none 0 0) 0 := ⟨by simp [maxLen], .inl ⟨rfl, rfl⟩⟩
    refine s_call (by exact rfl) (by exact rfl) (fun w h => rotCanon_no n v es vr hr0 ls w hs (ro_old h hr) (by omega) (rosI_old h hR) hle hk) ?_
    repeat' first
      | refine k_then ?_
      | refine c_seq ?_
      | refine c_region ?_
      | refine s_nil ?_
      | refine s_move (by exact rfl) (by exact rfl) ?_
      | refine s_assign (by exact rfl) (by exact rfl) ?_
      | refine s_extract (by exact rfl) (by exact rfl) (by exact rfl) ?_
      | fail
    refine o_call (by exact rfl) (by exact rfl) (fun w h => rotMirror_ok vr hr0 ls w (rosI_old h hR) (by omega) hle) ?_
    rintro vm _ ⟨hm, hml1, rfl⟩
    repeat' first
      | refine s_move (by exact rfl) (by exact rfl) ?_
      | fail
    refine o_call (by exact rfl) (by exact rfl) (fun w h => refMirror_ok vr hr0 ls w (rosI_old h hR) (by omega) hle) ?_
    rintro vm2 _ ⟨hm2, hml2, rfl⟩
    skip
    refine s_call (by exact rfl) (by exact rfl) (fun w h => ListsI_ok vm vm2 hm hm2 _ _ w (rosI_own h (.tail _ (.tail _ (.head _))) hml.symm (.tail _ (.tail _ (.tail _ (.head _))))) (rosI_own h (.head _) hml.symm (.tail _ (.head _))) rfl) ?_
    repeat' first
      | refine k_then ?_
      | refine c_seq ?_
      | refine c_region ?_
      | refine s_nil ?_
      | refine s_move (by exact rfl) (by exact rfl) ?_
      | refine s_not (by exact rfl) (by exact rfl) ?_
      | refine s_ldk_box (by exact rfl) (by exact rfl) (by exact .tail _ (.tail _ (.tail _ (.tail _ (.head _))))) (by exact rfl) (by exact rfl) ?_
      | refine c_skip ?_
      | refine c_cond_f (by exact rfl) ?_
      | fail
    refine s_call (by exact rfl) (by exact rfl) (fun w h => refRotRight_ok n v es vr hr0 ls w hs (ro_old h hr) (by omega) (rosI_old h hR)) ?_
    repeat' first
      | refine k_then ?_
      | refine c_seq ?_
      | refine c_region ?_
      | refine s_nil ?_
      | refine s_move (by exact rfl) (by exact rfl) ?_
      | refine s_assign (by exact rfl) (by exact rfl) ?_
      | refine s_eql (by exact rfl) (by exact rfl) (by exact rfl) ?_
      | refine s_neq (by exact rfl) (by exact rfl) (by exact rfl) ?_
      | refine s_pick_t (by exact rfl) (by exact rfl) (by exact rfl) ?_
      | (refine c_cond_p (by exact rfl) (fun h => ?_) (fun h => ?_) <;> try (exfalso; omega))
      | (refine g_case (by exact rfl) (by exact rfl) (fun h => ?_) (fun h => ?_) <;> try (exfalso; omega))
      | refine w_move (by exact rfl) (by exact rfl) (by exact rfl) (by exact rfl) ?_
      | refine w_eql (by exact rfl) (by exact rfl) (by exact rfl) (by exact rfl) (by exact rfl) ?_
      | refine w_len (by exact rfl) (by exact rfl) (by exact rfl) (by exact rfl) (by assumption) ?_
      | refine g_on (by exact rfl) (by exact rfl) ?_
      | fail
    refine s_call (vs := []) (by exact rfl) (by exact rfl) (fun w h => alive07_ok w) ?_
    repeat' first
      | refine k_then ?_
      | refine s_nil ?_
      | refine s_assign (by exact rfl) (by exact rfl) ?_
      | refine s_pick_t (by exact rfl) (by exact rfl) (by exact rfl) ?_
      | refine c_ret ?_
      | refine k_then_ret ?_
      | fail
    refine ret1 [] rfl rfl (by exact rfl) ⟨rfl, rfl⟩
end Go.Proofs.Ytpajjnkmaebhcaa
end
section
namespace Go.Proofs.Ytpajjnkmaebhcaa
open Go.ChangeShapes Go.WideShapes Go.ChangeAt Go.RowKit Go.Joins Go.Deep Go.Sl Fil
set_option maxRecDepth 100000
set_option linter.unusedVariables false
set_option linter.unusedSimpArgs false
theorem row_own : ownKnob Try.prog.godebug = none := by kernel_rfl
theorem row_laid : laidOutB Try.prog = true := by kernel_rfl
theorem cells_graph : Try.prog.cellsOf 24 = 2 := by kernel_rfl
theorem cells_edge : Try.prog.cellsOf 60 = 3 := by kernel_rfl
theorem cells_int : Try.prog.cellsOf 3 = 1 := by kernel_rfl
section
variable {H : Type} {enc : TypeId × Value → H}
theorem slice_spot {P : Program} {w : World} {r : Reach} {base : Nat} {t e : TypeId} {a : Addr} {len cap : Nat} (hu : P.underlying t = some (.slice e)) (h : Cell.okWide P w r base t (.slice (some a) len cap)) : a.spot = none := by
  simp only [Cell.okWide, hu, Cell.ok, World.has] at h
  exact h.2.2.2.1
theorem es_list {n : Nat} {f : Nat → Nat → Value} (h : ∀ i, i < n → ∃ a b c, f i 0 = .int .i64 a ∧ f i 1 = .int .i64 b ∧ f i 2 = .int .i64 c) : ∃ es : List E, es.length = n ∧ ∀ (i : Nat) j u, i < n → j < 3 → (esV es)[i * 3 + j]? = some u → u = f i j := by
  induction n with
  | zero => exact ⟨[], rfl, fun i j u hi => by omega⟩
  | succ n ih =>
    obtain ⟨es, h1, h2⟩ := ih fun i hi => h i (by omega)
    obtain ⟨a, b, c, ha, hb, hc⟩ := h n (by omega)
    refine ⟨es ++ [(a, b, c)], by simp [h1], fun i j u hi hj hu => ?_⟩
    rw [esV_snoc] at hu
    have hl := esV_length es
    by_cases hin : i < n
    · rw [List.getElem?_append_left (by omega)] at hu
      exact h2 i j u hin hj hu
    · obtain rfl : i = n := by omega
      rw [List.getElem?_append_right (by omega), show i * 3 + j - (esV es).length = j from by omega] at hu
      match j, hj with
      | 0, _ => simp [eV] at hu; rw [← hu, ha]
      | 1, _ => simp [eV] at hu; rw [← hu, hb]
      | 2, _ => simp [eV] at hu; rw [← hu, hc]
theorem open_edges {W : World} {base fuel : Nat} {v : Value} {y : DataW H × List MemPlace} (hv : Cell.okWide Try.prog W .any base 22 v) (h : DataW.trod enc Try.prog W 0 (fun _ => true) true fuel 22 [v] = some y) :
    ∃ es : List E, Shp v es.length ∧ RO W No v (esV es) := by
  rcases open_slice Try.underlying22 h with ⟨hcs, _⟩ | ⟨a, len, cap, m, n, D, Pl, hcs, _, hl, hm, hmm, _, hx⟩
  · simp only [List.cons.injEq, and_true] at hcs
    subst hcs
    exact ⟨[], ⟨by simp [maxLen], .inl ⟨rfl, rfl⟩⟩, RO.of_rd fun j u hj => by simp [esV] at hj⟩
  · simp only [List.cons.injEq, and_true] at hcs
    subst hcs
    have hsp := slice_spot Try.underlying22 hv
    obtain ⟨g, off, sp⟩ := a
    dsimp only at hsp
    subst hsp
    simp only [if_true] at hmm
    subst hmm
    have key : ∀ i, i < len → ∃ a b c, W.cell? ⟨g, off + (i * 3 + 0), none⟩ = some (.int .i64 a) ∧ W.cell? ⟨g, off + (i * 3 + 1), none⟩ = some (.int .i64 b) ∧ W.cell? ⟨g, off + (i * 3 + 2), none⟩ = some (.int .i64 c) := by
      intro i hi
      obtain ⟨cs, h1, h2⟩ := hx i (by omega)
      rw [cells_edge] at h1
      obtain ⟨_, hlen, hc⟩ := World.cells?_some h1
      obtain ⟨y0, y1, y2, k, _, _, t0, t1, t2⟩ := trod_struct3 Try.underlying60 h2
      obtain ⟨a, e0, -, -⟩ := DataW.trod_int Try.underlying3 t0
      obtain ⟨b, e1, -, -⟩ := DataW.trod_int Try.underlying3 t1
      obtain ⟨c, e2, -, -⟩ := DataW.trod_int Try.underlying2 t2
      match cs, hlen, hc, e0, e1, e2 with
      | [x0, x1, x2], _, hc, e0, e1, e2 =>
        have c0 := hc 0 (by omega)
        have c1 := hc 1 (by omega)
        have c2 := hc 2 (by omega)
        have f0 : x0 = .int .i64 a := by
          have : [x0] = [.int .i64 a] := e0
          simpa using this
        have f1 : x1 = .int .i64 b := by
          have : [x1] = [.int .i64 b] := e1
          simpa using this
        have f2 : x2 = .int .i64 c := by
          have : [x2] = [.int .i64 c] := e2
          simpa using this
        subst f0 f1 f2
        refine ⟨a, b, c, ?_, ?_, ?_⟩
        · rw [Deep.add_add] at c0
          rw [show (⟨g, off + (i * 3 + 0), none⟩ : Addr) = (⟨g, off, none⟩ : Addr).add (i * 3 + 0) from by simp [Addr.add]]
          exact c0
        · rw [Deep.add_add] at c1
          rw [show (⟨g, off + (i * 3 + 1), none⟩ : Addr) = (⟨g, off, none⟩ : Addr).add (i * 3 + 1) from by simp [Addr.add]]
          exact c1
        · rw [Deep.add_add] at c2
          rw [show (⟨g, off + (i * 3 + 2), none⟩ : Addr) = (⟨g, off, none⟩ : Addr).add (i * 3 + 2) from by simp [Addr.add]]
          exact c2
    obtain ⟨es, he1, he2⟩ := es_list (n := len) (f := fun i j => (W.cell? ⟨g, off + (i * 3 + j), none⟩).getD undef) (fun i hi => by
      obtain ⟨a, b, c, h0, h1, h2⟩ := key i hi
      exact ⟨a, b, c, congrArg (fun x => Option.getD x undef) h0, congrArg (fun x => Option.getD x undef) h1, congrArg (fun x => Option.getD x undef) h2⟩)
    subst he1
    refine ⟨es, ⟨by omega, .inr (.inl ⟨g, off, m, rfl, hl, hm⟩)⟩, RO.of_rd fun j u hj => ⟨g, off, es.length, m, rfl, ?_⟩⟩
    have hlt := (List.getElem?_eq_some_iff.1 hj).1
    rw [esV_length] at hlt
    have hd : j / 3 * 3 + j % 3 = j := by omega
    have hu := he2 (j / 3) (j % 3) u (by omega) (by omega) (by rw [hd]; exact hj)
    rw [hd] at hu
    obtain ⟨a, b, c, h0, h1, h2⟩ := key (j / 3) (by omega)
    have hex : ∃ x, W.cell? ⟨g, off + j, none⟩ = some x := by
      have : j % 3 = 0 ∨ j % 3 = 1 ∨ j % 3 = 2 := by omega
      rcases this with h | h | h
      · exact ⟨_, by rw [← hd, h]; exact h0⟩
      · exact ⟨_, by rw [← hd, h]; exact h1⟩
      · exact ⟨_, by rw [← hd, h]; exact h2⟩
    obtain ⟨x, hx⟩ := hex
    rw [hx] at hu ⊢
    rw [hu]
    rfl
theorem open_graph {W : World} {base : Nat} {v : Value} {d : DataW H} {p : List MemPlace} (hv : Value.okWide Try.prog W .any base 24 v) (h : DataW.Trod enc Try.prog W 0 (fun _ => true) true 24 v d p) :
    ∃ (n : Int) (u : Value) (es : List E), v = .agg #[.int .i64 n, u] ∧ Shp u es.length ∧ RO W No u (esV es) := by
  obtain ⟨c0, c1, y0, y1, m, rfl, -, -, hy0, hy1⟩ := open_agg2 Try.underlying24 (by kernel_rfl) cells_graph hv h
  obtain ⟨a, e0, -, -⟩ := DataW.trod_int Try.underlying3 hy0
  simp only [List.cons.injEq, and_true] at e0
  subst e0
  have hc : Cell.okWide Try.prog W .any base 22 c1 := by
    simp only [Value.okWide, Try.underlying24] at hv
    obtain ⟨cs, hcs, _, ts, hts, _, hall⟩ := hv
    obtain rfl : cs = #[.int .i64 a, c1] := by simpa using hcs.symm
    have e : Try.prog.cellTypes Try.prog.depth 24 = some [3, 22] := by kernel_rfl
    rw [e] at hts
    obtain rfl : [3, 22] = ts := by simpa using hts
    obtain ⟨u, hu, hok⟩ := hall 1 c1 rfl
    obtain rfl : 22 = u := by simpa using hu
    exact hok
  obtain ⟨es, h1, h2⟩ := open_edges hc hy1
  exact ⟨a, c1, es, rfl, h1, h2⟩
end
end Go.Proofs.Ytpajjnkmaebhcaa
end
section
namespace Go.Proofs.Ytpajjnkmaebhcaa
open Go.ChangeShapes Go.WideShapes Go.ChangeAt Go.RowKit Go.Joins Go.Deep Go.Sl Fil
set_option maxRecDepth 100000
set_option linter.unusedVariables false
set_option linter.unusedSimpArgs false
section
variable {H : Type} {enc : TypeId × Value → H}
theorem pick_lists {n : Nat} {P : Nat → Value → List Int → Prop} (h : ∀ i, i < n → ∃ x l, P i x l) : ∃ (hs : List Value) (ls : List (List Int)), hs.length = n ∧ ls.length = n ∧ ∀ (i : Nat) x l, hs[i]? = some x → ls[i]? = some l → P i x l := by
  induction n with
  | zero => exact ⟨[], [], rfl, rfl, fun i x l h => by simp at h⟩
  | succ n ih =>
    obtain ⟨hs, ls, h1, h2, h3⟩ := ih fun i hi => h i (by omega)
    obtain ⟨x, l, hp⟩ := h n (by omega)
    refine ⟨hs ++ [x], ls ++ [l], by simp [h1], by simp [h2], fun i y m hy hm => ?_⟩
    by_cases hi : i < n
    · rw [List.getElem?_append_left (by omega)] at hy hm
      exact h3 i y m hy hm
    · have hb := (List.getElem?_eq_some_iff.1 hy).1
      simp only [List.length_append, List.length_cons, List.length_nil] at hb
      obtain rfl : i = n := by omega
      rw [List.getElem?_append_right (by omega), show i - hs.length = 0 by omega] at hy
      rw [List.getElem?_append_right (by omega), show i - ls.length = 0 by omega] at hm
      simp at hy hm
      subst hy hm
      exact hp
theorem weights_all {P : Program} {e : TypeId} : ∀ {l : List (DataW H)} {d : DataW H}, d ∈ l → ∀ n ∈ d.weights P e, n ∈ DataW.weightsAll P e l
  | x :: l, d, h, n, hn => by
    rw [DataW.weightsAll]
    rcases List.mem_cons.1 h with rfl | h
    · exact List.mem_append.2 (.inl hn)
    · exact List.mem_append.2 (.inr (weights_all h n hn))
theorem okc_rows {W : World} {base : Nat} {v x : Value} (hc : Cell.okWide Try.prog W .any base 25 v) (h : v.cells.toList = [x]) : v = x := by
  cases v with
  | agg cs => simp [Cell.okWide, Try.underlying25, Cell.ok] at hc
  | _ => simpa [Value.cells] using h
theorem open_rows {W : World} {base : Nat} {v : Value} {d : DataW H} {p : List MemPlace} (hv : Value.okWide Try.prog W .any base 25 v) (h : DataW.Trod enc Try.prog W 0 (fun _ => true) true 25 v d p) (hz : ∀ n ∈ d.weights Try.prog 25, n ≤ reachBytes) :
    ∃ (hs : List Value) (ls : List (List Int)), ROsI W No v hs ls ∧ ∀ l ∈ ls, l.length ≤ 17592186044416 := by
  obtain ⟨fuel, hf⟩ := h
  have hc : Cell.okWide Try.prog W .any base 25 v := by
    simp only [Value.okWide, Try.underlying25] at hv
    exact hv
  rcases open_slice1 Try.underlying25 (by kernel_rfl) hf with ⟨hcs, _⟩ | ⟨a, len, cap, m, n, V, D, Pl, hcs, _, hl, hm, hmm, hxd, hx⟩
  · have hv0 : v = .slice none 0 0 := okc_rows hc hcs
    subst hv0
    exact ⟨[], [], ⟨⟨by simp [maxLen], .inl ⟨rfl, rfl⟩⟩, rfl, RO.of_rd fun j u hj => by simp at hj, fun i x l hi => by simp at hi⟩, by simp⟩
  · have hv0 : v = .slice (some a) len cap := okc_rows hc hcs
    subst hv0
    have hsp := slice_spot Try.underlying25 hc
    obtain ⟨g, off, sp⟩ := a
    dsimp only at hsp
    subst hsp
    rw [if_pos rfl] at hmm
    subst hmm
    obtain ⟨hs, ls, h1, h2, h3⟩ := pick_lists (n := len) (P := fun i x l => W.cell? ⟨g, off + i, none⟩ = some x ∧ (Shp x l.length ∧ RO W No x (iV l)) ∧ l.length ≤ 17592186044416) fun i hi => by
      obtain ⟨c1, c2⟩ := hx i (by omega)
      rw [show (⟨g, off, none⟩ : Addr).add i = ⟨g, off + i, none⟩ from by simp [Addr.add]] at c1
      rcases open_ints Try.underlying36 Try.underlying3 cells_int c2 with ⟨e, _⟩ | ⟨a', len', cap', zs, e, _, hl', hm', hzl, hdd, hx', _⟩
      · obtain e : V i = .slice none 0 0 := by simpa using e
        rw [e] at c1
        exact ⟨_, [], c1, ⟨⟨by simp [maxLen], .inl ⟨rfl, rfl⟩⟩, RO.of_rd fun j u hj => by simp [iV] at hj⟩, by simp⟩
      · obtain e : V i = .slice (some a') len' cap' := by simpa using e
        rw [e] at c1
        rw [if_pos rfl] at hzl
        by_cases h0 : cap' = 0
        · obtain rfl : len' = 0 := by omega
          subst h0
          exact ⟨_, [], c1, ⟨⟨by simp [maxLen], .inr (.inr ⟨⟨_, rfl⟩, rfl⟩)⟩, RO.of_rd fun j u hj => by simp [iV] at hj⟩, by simp⟩
        · have hsp := World.cell?_spot (hx' 0 (by omega))
          obtain ⟨g', off', sp'⟩ := a'
          obtain rfl : sp' = none := by simpa [Addr.add] using hsp
          have htl : (zs.take len').length = len' := by rw [List.length_take]; omega
          have hzz : len' ≤ 17592186044416 := by
            have e1 : D i = .slice (lits .i64 (zs.take len')) (lits .i64 (zs.drop len')) := congrArg Prod.fst hdd
            have e2 : (8 : Nat) = Try.prog.bytesOf 3 := by kernel_rfl
            have h5 : (zs.length * 8) ∈ (D i).weights Try.prog 36 := by
              rw [e1, DataW.weights, Try.underlying36]
              refine List.mem_cons.2 (.inl ?_)
              rw [← e2]
              simp [lits]
              omega
            have h6 : (D i) ∈ (List.range len).map D := List.mem_map.2 ⟨i, List.mem_range.2 hi, rfl⟩
            have h7 := hz _ (by
              rw [show d = _ from congrArg Prod.fst hxd, DataW.weights, Try.underlying25]
              exact List.mem_cons.2 (.inr (List.mem_append.2 (.inl (weights_all h6 _ h5)))))
            simp only [reachBytes] at h7
            omega
          refine ⟨_, zs.take len', c1, ⟨⟨by rw [htl]; omega, .inr (.inl ⟨g', off', cap', by rw [htl], by rw [htl]; exact hl', hm'⟩)⟩, RO.of_rd fun j u hj => ⟨g', off', len', cap', rfl, ?_⟩⟩, by rw [htl]; exact hzz⟩
          have hlt := (List.getElem?_eq_some_iff.1 hj).1
          simp only [iV, List.length_map, htl] at hlt
          have h2 := hx' j (by omega)
          rw [show (⟨g', off', none⟩ : Addr).add j = ⟨g', off' + j, none⟩ from by simp [Addr.add]] at h2
          rw [h2, ← hj]
          simp only [iV, List.getElem?_map, List.getElem?_take, if_pos hlt]
          rw [List.getD_eq_getElem?_getD, List.getElem?_eq_getElem (by omega)]
          rfl
    refine ⟨hs, ls, ⟨⟨by rw [h2]; omega, .inr (.inl ⟨g, off, m, by rw [h2], by rw [h2]; exact hl, hm⟩)⟩, by omega, RO.of_rd fun j u hj => ⟨g, off, len, m, rfl, ?_⟩, fun i x l hi hli => (h3 i x l hi hli).2.1⟩, fun l hl => ?_⟩
    rotate_left
    · obtain ⟨i, hi⟩ := List.getElem?_of_mem hl
      have hb := (List.getElem?_eq_some_iff.1 hi).1
      exact (h3 i _ l (List.getElem?_eq_getElem (show i < hs.length by omega)) hi).2.2
    have hlt := (List.getElem?_eq_some_iff.1 hj).1
    obtain ⟨l, hl2⟩ : ∃ l, ls[j]? = some l := ⟨_, List.getElem?_eq_getElem (by omega)⟩
    exact (h3 j u l hj hl2).1
end
end Go.Proofs.Ytpajjnkmaebhcaa
end
