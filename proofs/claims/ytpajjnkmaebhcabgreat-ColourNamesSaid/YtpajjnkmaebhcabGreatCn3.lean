/- Of ColourNames: part 3: what the walks rest on, contracts of functions and plain lemmas; no condition but those that each states. -/
import Derived.Test.YtpajjnkmaebhcabGreatCn2
import Derived.Laws.Cover3
import Derived.RangeFuncIn
import Derived.RangeFuncRecord
import Derived.RangeFuncLeaves
import Derived.RangeFuncCalls
import Derived.Sort.LoopGhostIn
set_option linter.unusedVariables false
set_option linter.unusedSimpArgs false
section
namespace Fil
/-- is an edge between u and v? -/
def between (u v : Int) (e : E) : Bool := decide (e.1 = u ∧ e.2.1 = v ∨ e.1 = v ∧ e.2.1 = u)
def findK (es : List E) (u v : Int) : Int := match es.findIdx? (between u v) with | some i => (i : Int) | none => -1
theorem findK_ge {es : List E} {u v : Int} : 0 ≤ findK es u v ↔ ∃ e ∈ es, between u v e = true := by
  unfold findK
  cases h : es.findIdx? (between u v) with
  | none =>
    rw [List.findIdx?_eq_none_iff] at h
    simp only [show ¬ (0 : Int) ≤ -1 by omega, false_iff]
    rintro ⟨e, he, h2⟩
    rw [h e he] at h2
    simp at h2
  | some i =>
    obtain ⟨hi, h2, _⟩ := List.findIdx?_eq_some_iff_getElem.1 h
    simp only [show (0 : Int) ≤ (i : Int) by omega, true_iff]
    exact ⟨_, List.getElem_mem hi, h2⟩
def isNext (es : List E) (u v : Nat) : Bool := decide (0 ≤ findK es (u : Int) (v : Int))
theorem isNext_iff {n : Int} {es : List E} (hR : RightG n es) {u v : Nat} : isNext es u v = true ↔ v ∈ nb (tn es) u := by
  rw [isNext, decide_eq_true_iff, findK_ge, mem_nb (fun e he => by have := hR.good.lt e he; omega)]
  simp only [between, decide_eq_true_iff, tn, List.mem_map, Prod.mk.injEq]
  constructor
  · rintro ⟨e, he, h | h⟩
    · exact .inl ⟨e, he, by omega, by omega⟩
    · exact .inr ⟨e, he, by omega, by omega⟩
  · rintro (⟨e, he, h1, h2⟩ | ⟨e, he, h1, h2⟩)
    · obtain ⟨q1, q2, _⟩ := hR.ok e he
      exact ⟨e, he, .inl ⟨by omega, by omega⟩⟩
    · obtain ⟨q1, q2, _⟩ := hR.ok e he
      exact ⟨e, he, .inr ⟨by omega, by omega⟩⟩
theorem nb_nodup {n : Int} {es : List E} (hR : RightG n es) (u : Nat) : (nb (tn es) u).Nodup := by
  rw [nb, List.Nodup, List.pairwise_filterMap, tn, List.pairwise_map]
  refine List.Pairwise.imp_of_mem ?_ hR.sorted
  intro a b ha hb hab x hx y hy
  obtain ⟨a1, a2, _⟩ := hR.ok a ha
  obtain ⟨b1, b2, _⟩ := hR.ok b hb
  dsimp only [ltE] at hab
  dsimp only at hx hy
  split at hx <;> split at hy
  · simp only [Option.some.injEq] at hx hy; omega
  · split at hy
    · simp only [Option.some.injEq] at hx hy; omega
    · simp at hy
  · split at hx
    · simp only [Option.some.injEq] at hx hy; omega
    · simp at hx
  · split at hx
    · split at hy
      · simp only [Option.some.injEq] at hx hy; omega
      · simp at hy
    · simp at hx
theorem near_eq {n : Int} {es : List E} (hR : RightG n es) {u : Nat} (hu : u < n.toNat) : (List.range n.toNat).filter (isNext es u) = nearS (tn es) u := by
  have hn := nb_nodup hR u
  refine List.Perm.eq_of_pairwise (le := fun a b => a ≤ b) (fun a b _ _ h1 h2 => Nat.le_antisymm h1 h2) ?_ ?_ ?_
  · exact (List.pairwise_lt_range.imp fun h => Nat.le_of_lt h).filter _
  · have := List.pairwise_mergeSort (le := fun (x y : Nat) => decide (x ≤ y)) (fun a b c h1 h2 => by simp at *; omega) (fun a b => by simp; omega) (nb (tn es) u)
    exact this.imp fun h => by simpa using h
  · refine ((List.perm_ext_iff_of_nodup (List.nodup_range.filter _) hn).2 fun v => ?_).trans (List.mergeSort_perm _ _).symm
    rw [List.mem_filter, List.mem_range, isNext_iff hR]
    exact ⟨fun h => h.2, fun h => ⟨hR.good.adj.lt u hu v h, h⟩⟩
end Fil
namespace Go.Proofs.YtpajjnkmaebhcabGreat
open Go.RowKit Go.Sl Fil
set_option maxRecDepth 100000
set_option maxHeartbeats 8000000
set_option linter.unusedVariables false
set_option linter.unusedSimpArgs false
attribute [local irreducible] Code.wp wpList bodyPost wpQuiet Exit.then Exit.inBlock Post wpAnyH wpOp
theorem Has_ok (v : Value) (l : List Int) (i : Int) (w : World) (hs : Shp v l.length) (hr : RO w No v (iV l)) :
    Calls Tryz.prog 47 #[v, .int .i64 i] w (Post w No (Just (.bool (decide (i ∈ l))))) := by
  have hm := hs.1
  simp only [maxLen] at hm
  refine enter0 (vs := [_, _]) Tryz.func47 rfl Tryz.ntmps47 rfl ?_
  repeat' first
    | refine k_then ?_ | refine c_seq ?_ | refine c_region ?_ | refine s_nil ?_ | refine s_assign (by exact rfl) (by exact rfl) ?_ | refine c_block ?_
  refine c_loop (fun k : Nat => k ≤ l.length ∧ i ∉ l.take k) (fun k => [(0, v), (1, .int .i64 i), (5, .int .i64 (k : Int))]) (fun _ => []) (fun k => l.length - k) 0 [] ⟨by omega, by simp⟩ rfl ⟨rfl, rfl, rfl, trivial⟩ ?_
  rintro k ⟨hk, hq⟩
  by_cases hlt : k < l.length
  · obtain ⟨c, hc⟩ : ∃ c, l[k]? = some c := ⟨_, List.getElem?_eq_getElem hlt⟩
    have h1 : (iV l)[k * 1]? = some (.int .i64 c) := by simp [iV, hc]
    repeat' first
      | refine k_then ?_ | refine c_seq ?_ | refine c_region ?_ | refine s_nil ?_ | refine s_move (by exact rfl) (by exact rfl) ?_ | refine s_assign (by exact rfl) (by exact rfl) ?_ | refine s_lss (by exact rfl) (by exact rfl) (by exact rfl) ?_ | refine s_eql (by exact rfl) (by exact rfl) (by exact rfl) ?_ | refine s_add (by exact rfl) (by exact rfl) (by exact rfl) (by omega) ?_ | refine s_len (by exact rfl) (by exact rfl) (by assumption) ?_ | refine s_idx (by exact rfl) (by exact rfl) (by exact rfl) (by assumption) (by first | assumption | omega) ?_ | refine s_ld_ro (by exact rfl) (by exact rfl) (by assumption) (by assumption) ?_ | refine c_block ?_ | refine c_skip ?_ | refine c_ret ?_ | refine k_then_ret ?_ | refine k_blk ?_ | refine k_blk_ret ?_ | (refine c_cond_p (by exact rfl) (fun h => ?_) (fun h => ?_) <;> try (exfalso; omega))
    · refine ret1 [] rfl rfl rfl ⟨congrArg Value.bool (decide_eq_true ?_).symm, rfl⟩
      have : c = i := by omega
      rw [← this]
      exact List.mem_of_getElem? hc
    · refine c_round (k + 1) [] (by exact rfl) (by exact ⟨rfl, rfl, rfl, trivial⟩) ⟨by omega, ?_⟩ (by omega)
      rw [List.take_add_one, hc]
      simp only [Option.toList_some, List.mem_append, List.mem_singleton]
      rintro (h | h)
      · exact hq h
      · omega
  · repeat' first
      | refine k_then ?_ | refine c_seq ?_ | refine c_region ?_ | refine s_nil ?_ | refine s_move (by exact rfl) (by exact rfl) ?_ | refine s_assign (by exact rfl) (by exact rfl) ?_ | refine s_lss (by exact rfl) (by exact rfl) (by exact rfl) ?_ | refine s_len (by exact rfl) (by exact rfl) (by assumption) ?_ | refine c_exit ?_ | refine c_ret ?_ | refine k_then_exit ?_ | refine k_blk_eq ?_ | (refine c_cond_p (by exact rfl) (fun h => ?_) (fun h => ?_) <;> try (exfalso; omega))
    rw [List.take_of_length_le (by omega)] at hq
    refine ret1 [] rfl rfl rfl ⟨congrArg Value.bool (decide_eq_false hq).symm, rfl⟩
theorem HasN_ok (v : Value) (l : List Nat) (i : Nat) (w : World) (hs : Shp v l.length) (hr : RO w No v (nV l)) :
    Calls Tryz.prog 47 #[v, .int .i64 (i : Int)] w (Post w No (Just (.bool (decide (i ∈ l))))) := by
  have h := Has_ok v (l.map fun z : Nat => (z : Int)) i w (by simpa using hs) (by rw [← nV_iV]; exact hr)
  have e : ((i : Int) ∈ l.map fun z : Nat => (z : Int)) ↔ i ∈ l := by
    simp only [List.mem_map]
    exact ⟨fun ⟨a, h1, h2⟩ => by rwa [show i = a by omega], fun h => ⟨i, h, rfl⟩⟩
  rwa [decide_eq_decide.2 e] at h
theorem Find_ok (n : Int) (v : Value) (es : List E) (x y : Int) (w : World) (hs : Shp v es.length) (hr : RO w No v (esV es)) :
    Calls Tryz.prog 83 #[.agg #[.int .i64 n, v], .int .i64 x, .int .i64 y] w (Post w No (Just (.int .i64 (findK es x y)))) := by
  have hm := hs.1
  simp only [maxLen] at hm
  refine enter0 (vs := [_, _, _]) Tryz.func83 rfl Tryz.ntmps83 rfl ?_
  repeat' first
    | refine k_then ?_ | refine c_seq ?_ | refine c_region ?_ | refine s_nil ?_ | refine s_assign (by exact rfl) (by exact rfl) ?_ | refine o_box (by exact rfl) (by exact rfl) (fun b => ?_) | refine c_block ?_
  refine c_loop (fun k : Nat => k ≤ es.length ∧ ∀ e ∈ es.take k, between x y e = false) (fun k => [(1, .int .i64 x), (2, .int .i64 y), (3, .pointer (some ⟨b, 0, none⟩)), (7, .int .i64 (k : Int))]) (fun _ => [boxHP b 24 [.int .i64 n, v]]) (fun k => es.length - k) 0 [0] ⟨by omega, by simp⟩ rfl ⟨rfl, rfl, rfl, rfl, trivial⟩ ?_
  rintro k ⟨hk, hq⟩
  by_cases hlt : k < es.length
  · obtain ⟨e, he⟩ : ∃ e, es[k]? = some e := ⟨_, List.getElem?_eq_getElem hlt⟩
    obtain ⟨hE0, hE1, hE2⟩ := esV_get he
    cases hbt : between x y e
    · have hn : ¬ (e.1 = x ∧ e.2.1 = y ∨ e.1 = y ∧ e.2.1 = x) := by simpa [between] using hbt
      repeat' first
        | refine k_then ?_ | refine c_seq ?_ | refine c_region ?_ | refine s_nil ?_ | refine s_move (by exact rfl) (by exact rfl) ?_ | refine s_assign (by exact rfl) (by exact rfl) ?_ | refine s_fa (by exact rfl) (by exact rfl) ?_ | refine s_ld_box (by exact rfl) (by exact rfl) (by exact .head _) (by exact rfl) ?_ | refine s_lss (by exact rfl) (by exact rfl) (by exact rfl) ?_ | refine s_eql (by exact rfl) (by exact rfl) (by exact rfl) ?_ | refine s_add (by exact rfl) (by exact rfl) (by exact rfl) (by omega) ?_ | refine s_len (by exact rfl) (by exact rfl) (by assumption) ?_ | refine s_idx (by exact rfl) (by exact rfl) (by exact rfl) (by assumption) (by first | assumption | omega) ?_ | refine s_fap (by exact rfl) (by exact rfl) (by assumption) (by omega) ?_ | refine s_pick_t (by exact rfl) (by exact rfl) (by exact rfl) ?_ | refine s_pick_f (by exact rfl) (by exact rfl) (by exact rfl) ?_ | refine s_ld_ro (by exact rfl) (by exact rfl) (by assumption) (by assumption) ?_ | refine c_block ?_ | refine c_skip ?_ | refine k_blk ?_ | (refine c_cond_p (by exact rfl) (fun h => ?_) (fun h => ?_) <;> try (exfalso; omega)) | refine c_cond_f (by exact rfl) ?_ | (refine g_case (by exact rfl) (by exact rfl) (fun h => ?_) (fun h => ?_) <;> try (exfalso; omega)) | refine g_skip (by exact rfl) (by exact rfl) (by exact rfl) (by exact rfl) ?_ | refine w_move (by exact rfl) (by exact rfl) (by exact rfl) (by exact rfl) ?_ | refine w_fa (by exact rfl) (by exact rfl) (by exact rfl) (by exact rfl) ?_ | refine w_ld_box (by exact rfl) (by exact rfl) (by exact rfl) (by exact rfl) (by exact .head _) (by exact rfl) ?_ | refine w_eql (by exact rfl) (by exact rfl) (by exact rfl) (by exact rfl) (by exact rfl) ?_ | refine w_idx (by exact rfl) (by exact rfl) (by exact rfl) (by exact rfl) (by exact rfl) (by assumption) (by first | assumption | omega) ?_ | refine w_fap (by exact rfl) (by exact rfl) (by exact rfl) (by exact rfl) (by assumption) (by omega) ?_ | refine w_pick_t (by exact rfl) (by exact rfl) (by exact rfl) (by exact rfl) (by exact rfl) ?_ | refine w_pick_f (by exact rfl) (by exact rfl) (by exact rfl) (by exact rfl) (by exact rfl) ?_ | refine w_ld_ro (by exact rfl) (by exact rfl) (by exact rfl) (by exact rfl) (by assumption) (by assumption) ?_
      all_goals
        refine c_round (k + 1) [0] (by exact rfl) (by exact ⟨rfl, rfl, rfl, rfl, trivial⟩) ⟨by omega, ?_⟩ (by omega)
        rw [List.take_add_one, he]
        intro a ha
        rcases List.mem_append.1 ha with ha | ha
        · exact hq a ha
        · obtain rfl : a = e := by simpa using ha
          exact hbt
    · have hp : e.1 = x ∧ e.2.1 = y ∨ e.1 = y ∧ e.2.1 = x := by simpa [between] using hbt
      have hfk : findK es x y = (k : Int) := by
        have : es.findIdx? (between x y) = some k := by
          rw [List.findIdx?_eq_some_iff_getElem]
          obtain ⟨h1, h2⟩ := List.getElem?_eq_some_iff.1 he
          refine ⟨h1, by rw [h2]; exact hbt, fun j hj => ?_⟩
          rw [hq _ (List.mem_take_iff_getElem.2 ⟨j, by omega, rfl⟩)]
          simp
        rw [findK, this]
      repeat' first
        | refine k_then ?_ | refine c_seq ?_ | refine c_region ?_ | refine s_nil ?_ | refine s_move (by exact rfl) (by exact rfl) ?_ | refine s_assign (by exact rfl) (by exact rfl) ?_ | refine s_fa (by exact rfl) (by exact rfl) ?_ | refine s_ld_box (by exact rfl) (by exact rfl) (by exact .head _) (by exact rfl) ?_ | refine s_lss (by exact rfl) (by exact rfl) (by exact rfl) ?_ | refine s_eql (by exact rfl) (by exact rfl) (by exact rfl) ?_ | refine s_len (by exact rfl) (by exact rfl) (by assumption) ?_ | refine s_idx (by exact rfl) (by exact rfl) (by exact rfl) (by assumption) (by first | assumption | omega) ?_ | refine s_fap (by exact rfl) (by exact rfl) (by assumption) (by omega) ?_ | refine s_pick_t (by exact rfl) (by exact rfl) (by exact rfl) ?_ | refine s_pick_f (by exact rfl) (by exact rfl) (by exact rfl) ?_ | refine s_ld_ro (by exact rfl) (by exact rfl) (by assumption) (by assumption) ?_ | refine c_block ?_ | refine c_skip ?_ | refine c_ret ?_ | refine k_then_ret ?_ | refine k_blk_ret ?_ | (refine c_cond_p (by exact rfl) (fun h => ?_) (fun h => ?_) <;> try (exfalso; omega)) | refine c_cond_t (by exact rfl) ?_ | (refine g_case (by exact rfl) (by exact rfl) (fun h => ?_) (fun h => ?_) <;> try (exfalso; omega)) | refine g_skip (by exact rfl) (by exact rfl) (by exact rfl) (by exact rfl) ?_ | refine w_move (by exact rfl) (by exact rfl) (by exact rfl) (by exact rfl) ?_ | refine w_fa (by exact rfl) (by exact rfl) (by exact rfl) (by exact rfl) ?_ | refine w_ld_box (by exact rfl) (by exact rfl) (by exact rfl) (by exact rfl) (by exact .head _) (by exact rfl) ?_ | refine w_eql (by exact rfl) (by exact rfl) (by exact rfl) (by exact rfl) (by exact rfl) ?_ | refine w_idx (by exact rfl) (by exact rfl) (by exact rfl) (by exact rfl) (by exact rfl) (by assumption) (by first | assumption | omega) ?_ | refine w_fap (by exact rfl) (by exact rfl) (by exact rfl) (by exact rfl) (by assumption) (by omega) ?_ | refine w_pick_t (by exact rfl) (by exact rfl) (by exact rfl) (by exact rfl) (by exact rfl) ?_ | refine w_ld_ro (by exact rfl) (by exact rfl) (by exact rfl) (by exact rfl) (by assumption) (by assumption) ?_
      all_goals refine ret1 [] rfl rfl rfl ⟨by rw [hfk], rfl⟩
  · repeat' first
      | refine k_then ?_ | refine c_seq ?_ | refine c_region ?_ | refine s_nil ?_ | refine s_move (by exact rfl) (by exact rfl) ?_ | refine s_assign (by exact rfl) (by exact rfl) ?_ | refine s_fa (by exact rfl) (by exact rfl) ?_ | refine s_ld_box (by exact rfl) (by exact rfl) (by exact .head _) (by exact rfl) ?_ | refine s_lss (by exact rfl) (by exact rfl) (by exact rfl) ?_ | refine s_len (by exact rfl) (by exact rfl) (by assumption) ?_ | refine c_exit ?_ | refine c_ret ?_ | refine k_then_exit ?_ | refine k_blk_eq ?_ | (refine c_cond_p (by exact rfl) (fun h => ?_) (fun h => ?_) <;> try (exfalso; omega))
    rw [List.take_of_length_le (by omega)] at hq
    refine ret1 [] rfl rfl rfl ⟨?_, rfl⟩
    have : es.findIdx? (between x y) = none := List.findIdx?_eq_none_iff.2 hq
    rw [findK, this]
theorem refNear_ok (n : Int) (v : Value) (es : List E) (w : World) (hs : Shp v es.length) (hr : RO w No v (esV es)) (hR : RightG n es) :
    Calls Tryz.prog 51 #[.agg #[.int .i64 n, v]] w (Post w No fun r L' => ∃ hs : List Value, hs.length = n.toNat ∧ L' = [rowHP r 28 1 n.toNat hs, starHP (kids rowN hs ((List.range n.toNat).map (nearS (tn es))))]) := by
  have hlo := hR.lo
  have hhi := hR.hi
  have hm : es.length < 4611686018427387904 := by have := hR.many; omega
  refine enter0 (vs := [_]) Tryz.func51 rfl Tryz.ntmps51 rfl ?_
  repeat' first
    | refine k_then ?_ | refine c_seq ?_ | refine c_region ?_ | refine s_nil ?_ | refine s_assign (by exact rfl) (by exact rfl) ?_ | refine s_fa (by exact rfl) (by exact rfl) ?_ | refine s_ld_box (by exact rfl) (by exact rfl) (by exact .head _) (by exact rfl) ?_ | refine o_box (by exact rfl) (by exact rfl) (fun b => ?_)
  refine o_make (by exact rfl) (by exact rfl) (by exact rfl) (by omega) (by omega) fun vo hvo => ?_
  rw [made1 rfl]
  have hnear := fun u (hu : u < n.toNat) => near_eq hR hu
  repeat' first
    | refine k_then ?_ | refine c_seq ?_ | refine c_region ?_ | refine s_nil ?_ | refine s_assign (by exact rfl) (by exact rfl) ?_ | refine c_block ?_
  generalize hN : n.toNat = N at *
  have hnN : n = (N : Int) := by omega
  subst hnN
  let part : Nat → Nat → Nat → List Nat := fun u m w => if w < u then (List.range N).filter (isNext es w) else if w = u then (List.range m).filter (isNext es w) else []
  refine c_nils 3 1 N ?_
  refine c_loop (fun x : Nat × List Value => x.1 ≤ N ∧ x.2.length = N) (fun x => [(1, .pointer (some ⟨b, 0, none⟩)), (3, vo), (4, .int .i64 (x.1 : Int))]) (fun x => [rowHP vo 28 1 N x.2, starHP (kids rowN x.2 ((List.range N).map (part x.1 0))), boxHP b 24 [.int .i64 (N : Int), v]]) (fun x => N - x.1) (0, List.replicate N (.slice none 0 0)) [1, 0, 0] ⟨by omega, by simp⟩ ?_ ⟨rfl, rfl, rfl, trivial⟩ ?_
  · rw [show (List.range N).map (part 0 0) = List.replicate N [] from by
      rw [List.eq_replicate_iff]
      refine ⟨by simp, fun x hx => ?_⟩
      obtain ⟨w, _, rfl⟩ := List.mem_map.1 hx
      simp only [part]
      split
      · omega
      · split <;> simp]
    rw [kids_nils]
    rfl
  rintro ⟨u, hs0⟩ ⟨hu, hl0⟩
  dsimp only at hu hl0 ⊢
  by_cases hul : u < N
  · repeat' first
      | refine k_then ?_ | refine c_seq ?_ | refine c_region ?_ | refine s_nil ?_ | refine s_move (by exact rfl) (by exact rfl) ?_ | refine s_assign (by exact rfl) (by exact rfl) ?_ | refine s_fa (by exact rfl) (by exact rfl) ?_ | refine s_ld_box (by exact rfl) (by exact rfl) (by exact .tail _ (.tail _ (.head _))) (by exact rfl) ?_ | refine s_lss (by exact rfl) (by exact rfl) (by exact rfl) ?_ | refine c_block ?_ | refine c_skip ?_ | (refine c_cond_p (by exact rfl) (fun h => ?_) (fun h => ?_) <;> try (exfalso; omega))
    refine c_loop (fun x : Nat × List Value => x.1 ≤ N ∧ x.2.length = N) (fun x => [(1, .pointer (some ⟨b, 0, none⟩)), (3, vo), (4, .int .i64 (u : Int)), (5, .int .i64 (x.1 : Int))]) (fun x => [rowHP vo 28 1 N x.2, starHP (kids rowN x.2 ((List.range N).map (part u x.1))), boxHP b 24 [.int .i64 (N : Int), v]]) (fun x => N - x.1) (0, hs0) [0, 0, 0] ⟨by omega, hl0⟩ (by exact rfl) ⟨rfl, rfl, rfl, rfl, trivial⟩ ?_
    clear hl0
    clear hs0
    rintro ⟨m, hs0⟩ ⟨hmN, hl0⟩
    dsimp only at hmN hl0 ⊢
    by_cases hml : m < N
    · repeat' first
        | refine k_then ?_ | refine c_seq ?_ | refine c_region ?_ | refine s_nil ?_ | refine s_move (by exact rfl) (by exact rfl) ?_ | refine s_fa (by exact rfl) (by exact rfl) ?_ | refine s_ld_box (by exact rfl) (by exact rfl) (by exact .tail _ (.tail _ (.head _))) (by exact rfl) ?_ | refine s_lss (by exact rfl) (by exact rfl) (by exact rfl) ?_ | refine s_ldk_box (by exact rfl) (by exact rfl) (by exact .tail _ (.tail _ (.head _))) (by exact rfl) (by exact rfl) ?_ | refine c_block ?_ | refine c_skip ?_ | (refine c_cond_p (by exact rfl) (fun h => ?_) (fun h => ?_) <;> try (exfalso; omega))
      refine s_call (by exact rfl) (by exact rfl) (fun w h => Find_ok N v es u m w hs (ro_old h hr)) ?_
      have hrow : (List.range (m + 1)).filter (isNext es u) = (List.range m).filter (isNext es u) ++ (if isNext es u m then [m] else []) := by
        rw [List.range_succ, List.filter_append]
        simp [List.filter_cons]
      have hpart : (List.range N).map (part u (m + 1)) = ((List.range N).map (part u m)).set u ((List.range (m + 1)).filter (isNext es u)) := by
        apply List.ext_getElem?
        intro k
        simp only [List.getElem?_set, List.getElem?_map, List.length_map, List.length_range]
        by_cases hk : k < N
        · rw [List.getElem?_range hk]
          by_cases hku : u = k
          · subst hku
            simp [part, hk]
          · simp only [hku, if_false, Option.map_some, part]
            have : ¬ k = u := fun e => hku e.symm
            simp [this]
        · rw [List.getElem?_eq_none (by simpa using hk)]
          have : ¬ u = k := by omega
          simp [this]
      have hpu : ((List.range N).map (part u m))[u]? = some ((List.range m).filter (isNext es u)) := by simp [part, hul]
      have hcnt : ((List.range m).filter (isNext es u)).length ≤ m := by
        have := List.length_filter_le (isNext es u) (List.range m)
        simpa using this
      cases hnx : isNext es u m
      · have hneg : ¬ (0 ≤ findK es (u : Int) (m : Int)) := by simpa [isNext] using hnx
        rw [hnx, if_neg (by simp), List.append_nil] at hrow
        repeat' first
          | refine k_then ?_ | refine c_region ?_ | refine s_nil ?_ | refine s_move (by exact rfl) (by exact rfl) ?_ | refine s_assign (by exact rfl) (by exact rfl) ?_ | refine s_geq (by exact rfl) (by exact rfl) (by exact rfl) ?_ | refine s_add (by exact rfl) (by exact rfl) (by exact rfl) (by omega) ?_ | refine c_skip ?_ | refine k_blk ?_ | (refine c_cond_p (by exact rfl) (fun h => ?_) (fun h => ?_) <;> try (exfalso; omega))
        refine c_round (m + 1, hs0) [0, 0, 0] ?_ (by exact ⟨rfl, rfl, rfl, rfl, trivial⟩) ⟨by dsimp only; omega, hl0⟩ (by dsimp only; omega)
        dsimp only
        rw [hpart, hrow, show ((List.range N).map (part u m)).set u ((List.range m).filter (isNext es u)) = (List.range N).map (part u m) from by
          apply List.ext_getElem?
          intro k
          rw [List.getElem?_set]
          split
          · rename_i e; subst e; rw [hpu]; simp [hul]
          · rfl]
        rfl
      · have hpos : 0 ≤ findK es (u : Int) (m : Int) := by simpa [isNext] using hnx
        rw [hnx, if_pos rfl] at hrow
        obtain ⟨hd, hhd⟩ : ∃ hd, hs0[u]? = some hd := ⟨_, List.getElem?_eq_getElem (by omega)⟩
        have hhd1 : hs0[u * 1]? = some hd := by simpa using hhd
        repeat' first
          | refine k_then ?_ | refine c_region ?_ | refine s_nil ?_ | refine s_move (by exact rfl) (by exact rfl) ?_ | refine s_geq (by exact rfl) (by exact rfl) (by exact rfl) ?_ | refine s_idx (by exact rfl) (by exact rfl) (by exact rfl) (by assumption) (by first | assumption | omega) ?_ | refine s_ld_row (by exact rfl) (by exact rfl) (by exact .head _) (by assumption) ?_ | (refine c_cond_p (by exact rfl) (fun h => ?_) (fun h => ?_) <;> try (exfalso; omega))
        refine o_mk [.int .i64 (m : Int)] (by exact rfl) (by exact rfl) rfl ?_ ?_ (by simp) fun vt hvt => ?_
        · simp [Value.cells]
        · simp
        skip
        refine c_take 2 u (by exact rfl) (kids_get hhd hpu) ?_
        refine c_pick [0, 1, 0, 0, 0] (by exact rfl) ?_
        refine o_append_row (i := 0) (by exact rfl) (by exact rfl) (by exact rfl) (by exact rfl) (by exact .tail _ (.tail _ (.head _))) (by exact rfl) (by simp [Value.cells, Value.oneCell']) ?_ fun vk hvk => ?_
        · omega
        repeat' first
          | refine s_idx (by exact rfl) (by exact rfl) (by exact rfl) (by assumption) (by first | assumption | omega) ?_
        refine o_st_row (i := 1) (by exact rfl) (by exact rfl) (by exact rfl) hvk.one (by omega) ?_
        repeat' first
          | refine k_then ?_ | refine c_region ?_ | refine s_nil ?_ | refine s_move (by exact rfl) (by exact rfl) ?_ | refine s_assign (by exact rfl) (by exact rfl) ?_ | refine s_add (by exact rfl) (by exact rfl) (by exact rfl) (by omega) ?_ | refine k_blk ?_
        refine c_pick [0, 0, 1, 1] (by exact rfl) ?_
        have e1 : rowHP vk 3 1 (((List.range m).filter (isNext es u)).length + 1) (nV ((List.range m).filter (isNext es u)) ++ [Value.int .i64 (m : Int)]) = rowN vk ((List.range (m + 1)).filter (isNext es u)) := by
          rw [hrow]
          exact rowN_snoc _ _ _
        refine c_give 1 u (by exact rfl) (by simp [kids, hl0, hul]) ?_
        refine c_round (m + 1, hs0.set u vk) [0, 0, 0] ?_ (by exact ⟨rfl, rfl, rfl, rfl, trivial⟩) ⟨by dsimp only; omega, by simpa using hl0⟩ (by dsimp only; omega)
        dsimp only
        rw [hpart, ← kids_set (x := empHP), ← e1, Nat.mul_one]
        rfl
    · repeat' first
        | refine k_then ?_ | refine c_seq ?_ | refine c_region ?_ | refine s_nil ?_ | refine s_move (by exact rfl) (by exact rfl) ?_ | refine s_assign (by exact rfl) (by exact rfl) ?_ | refine s_fa (by exact rfl) (by exact rfl) ?_ | refine s_ld_box (by exact rfl) (by exact rfl) (by exact .tail _ (.tail _ (.head _))) (by exact rfl) ?_ | refine s_lss (by exact rfl) (by exact rfl) (by exact rfl) ?_ | refine s_add (by exact rfl) (by exact rfl) (by exact rfl) (by omega) ?_ | refine c_exit ?_ | refine k_then_exit ?_ | refine k_blk ?_ | refine k_blk_eq ?_ | (refine c_cond_p (by exact rfl) (fun h => ?_) (fun h => ?_) <;> try (exfalso; omega))
      obtain rfl : m = N := by omega
      refine c_round (u + 1, hs0) [0, 0, 0] ?_ (by exact ⟨rfl, rfl, rfl, trivial⟩) ⟨by dsimp only; omega, hl0⟩ (by dsimp only; omega)
      dsimp only
      rw [show (List.range m).map (part (u + 1) 0) = (List.range m).map (part u m) from by
        apply List.map_congr_left
        intro w _
        simp only [part]
        by_cases h1 : w < u
        · rw [if_pos h1, if_pos (by omega)]
        · rw [if_neg h1]
          by_cases h2 : w = u
          · rw [if_pos h2, if_pos (by omega)]
          · rw [if_neg h2, if_neg (by omega)]
            split <;> simp]
      rfl
  · repeat' first
      | refine k_then ?_ | refine c_seq ?_ | refine c_region ?_ | refine s_nil ?_ | refine s_move (by exact rfl) (by exact rfl) ?_ | refine s_assign (by exact rfl) (by exact rfl) ?_ | refine s_fa (by exact rfl) (by exact rfl) ?_ | refine s_ld_box (by exact rfl) (by exact rfl) (by exact .tail _ (.tail _ (.head _))) (by exact rfl) ?_ | refine s_lss (by exact rfl) (by exact rfl) (by exact rfl) ?_ | refine c_exit ?_ | refine c_ret ?_ | refine k_then_exit ?_ | refine k_blk_eq ?_ | (refine c_cond_p (by exact rfl) (fun h => ?_) (fun h => ?_) <;> try (exfalso; omega))
    obtain rfl : u = N := by omega
    refine ret1 [0, 0] rfl rfl rfl ⟨hs0, hl0, ?_⟩
    rw [show (List.range u).map (part u 0) = (List.range u).map (nearS (tn es)) from by
      apply List.map_congr_left
      intro w hw
      have hw : w < u := by simpa using hw
      simp only [part]
      rw [if_pos hw, hnear w hw]]
end Go.Proofs.YtpajjnkmaebhcabGreat
end
section
namespace Go.Proofs.YtpajjnkmaebhcabGreat
open Go.RowKit Go.Sl Fil
set_option maxRecDepth 100000
set_option maxHeartbeats 8000000
set_option linter.unusedVariables false
set_option linter.unusedSimpArgs false
attribute [local irreducible] Code.wp wpList bodyPost wpQuiet Exit.then Exit.inBlock Post wpAnyH wpOp
end Go.Proofs.YtpajjnkmaebhcabGreat
end
section
namespace Go.Proofs.YtpajjnkmaebhcabGreat
open Go.RowKit Go.Sl Fil
set_option maxRecDepth 100000
set_option maxHeartbeats 8000000
set_option linter.unusedVariables false
set_option linter.unusedSimpArgs false
attribute [local irreducible] Code.wp wpList bodyPost wpQuiet Exit.then Exit.inBlock Post wpAnyH wpOp
end Go.Proofs.YtpajjnkmaebhcabGreat
end
section
set_option linter.unusedVariables false
namespace Fil
def lenF (A : Nat → Option (List Nat)) (v : Nat) : Nat := ((A v).getD []).length
def fewStep (A : Nat → Option (List Nat)) (best : Option Nat) (i : Nat) : Option Nat := match A i with
  | none => best
  | some l => match best with
    | none => some i
    | some b => if l.length < lenF A b then some i else some b
def fewI (A : Nat → Option (List Nat)) (i : Nat) : Option Nat := (List.range i).foldl (fewStep A) none
theorem fewI_succ (A : Nat → Option (List Nat)) (i : Nat) : fewI A (i + 1) = fewStep A (fewI A i) i := by simp [fewI, List.range_succ]
theorem fewI_some {A : Nat → Option (List Nat)} : ∀ {i b : Nat}, fewI A i = some b → b < i ∧ ∃ l, A b = some l
  | 0, b, h => by simp [fewI] at h
  | i + 1, b, h => by
    rw [fewI_succ] at h
    unfold fewStep at h
    cases hA : A i with
    | none =>
      rw [hA] at h
      obtain ⟨h1, h2⟩ := fewI_some h
      exact ⟨by omega, h2⟩
    | some l =>
      rw [hA] at h
      dsimp only at h
      cases hf : fewI A i with
      | none =>
        rw [hf] at h
        obtain rfl : i = b := by simpa using h
        exact ⟨by omega, l, hA⟩
      | some c =>
        rw [hf] at h
        dsimp only at h
        obtain ⟨h1, h2⟩ := fewI_some hf
        split at h
        · obtain rfl : i = b := by simpa using h
          exact ⟨by omega, l, hA⟩
        · obtain rfl : c = b := by simpa using h
          exact ⟨by omega, h2⟩
theorem fewI_congr {A B : Nat → Option (List Nat)} : ∀ {i : Nat}, (∀ v, v < i → (A v).map List.length = (B v).map List.length) → fewI A i = fewI B i
  | 0, _ => rfl
  | i + 1, h => by
    rw [fewI_succ, fewI_succ, fewI_congr (fun v hv => h v (by omega))]
    have hi := h i (by omega)
    unfold fewStep
    cases hA : A i <;> cases hB : B i <;> rw [hA, hB] at hi <;> simp at hi ⊢
    cases hf : fewI B i with
    | none => rfl
    | some c =>
      obtain ⟨hc, _⟩ := fewI_some hf
      have hcl := h c (by omega)
      have : lenF A c = lenF B c := by
        unfold lenF
        cases hA' : A c <;> cases hB' : B c <;> rw [hA', hB'] at hcl <;> simp at hcl ⊢
        exact hcl
      dsimp only
      rw [this, hi]
/-- v goes; it is no longer next to those of l -/
def takeF (A : Nat → Option (List Nat)) (v : Nat) (l : List Nat) (u : Nat) : Option (List Nat) := if u = v then none else if u ∈ l then (A u).map fun m => m.filter fun a => a ≠ v else A u
def sortN (l : List Nat) : List Nat := l.mergeSort fun x y => decide (x ≤ y)
theorem sortN_perm (l : List Nat) : (sortN l).Perm l := List.mergeSort_perm l _
theorem sortN_sorted (l : List Nat) : (sortN l).Pairwise fun a b => a ≤ b := by
  have := List.pairwise_mergeSort (le := fun (x y : Nat) => decide (x ≤ y)) (fun a b c h1 h2 => by simp at *; omega) (fun a b => by simp; omega) l
  exact this.imp fun h => by simpa using h
theorem sortN_congr {l m : List Nat} (h : l.Perm m) : sortN l = sortN m :=
  List.Perm.eq_of_pairwise (le := fun a b => a ≤ b) (fun a b _ _ h1 h2 => Nat.le_antisymm h1 h2) (sortN_sorted l) (sortN_sorted m) ((sortN_perm l).trans (h.trans (sortN_perm m).symm))
theorem nodup_length {l : List Nat} {N : Nat} (h : l.Nodup) (hN : ∀ u ∈ l, u < N) : l.length ≤ N := by
  have hp := (List.perm_ext_iff_of_nodup h (List.nodup_range.filter fun u => decide (u ∈ l)) (l₂ := (List.range N).filter fun u => decide (u ∈ l))).2 fun u => by
    simp only [List.mem_filter, List.mem_range, decide_eq_true_eq]
    exact ⟨fun hu => ⟨hN u hu, hu⟩, fun hu => hu.2⟩
  have h1 := hp.length_eq
  have h2 := List.length_filter_le (fun u => decide (u ∈ l)) (List.range N)
  rw [List.length_range] at h2
  omega
theorem range_set {α : Type} {g g' : Nat → α} {N i : Nat} (h : ∀ u, u < N → u ≠ i → g u = g' u) : ((List.range N).map g).set i (g' i) = (List.range N).map g' := by
  apply List.ext_getElem?
  intro k
  simp only [List.getElem?_set, List.getElem?_map, List.length_map, List.length_range]
  by_cases hk : k < N
  · rw [List.getElem?_range hk]
    by_cases hki : i = k
    · subst hki; simp [hk]
    · simp only [hki, if_false, Option.map_some]
      rw [h k hk (fun e => hki e.symm)]
  · rw [List.getElem?_eq_none (by simpa using hk)]
    split
    · rw [if_neg (by omega)]; rfl
    · rfl
end Fil
end
section
namespace Go.Proofs.YtpajjnkmaebhcabGreat
open Go.RowKit Go.Sl Fil
set_option maxRecDepth 100000
set_option maxHeartbeats 8000000
set_option linter.unusedVariables false
set_option linter.unusedSimpArgs false
attribute [local irreducible] Code.wp wpList bodyPost wpQuiet Exit.then Exit.inBlock Post wpAnyH wpOp
end Go.Proofs.YtpajjnkmaebhcabGreat
end
section
namespace Go.Proofs.YtpajjnkmaebhcabGreat
open Go.RowKit Go.Sl Fil
set_option maxRecDepth 100000
set_option maxHeartbeats 8000000
set_option linter.unusedVariables false
set_option linter.unusedSimpArgs false
attribute [local irreducible] Code.wp wpList bodyPost wpQuiet Exit.then Exit.inBlock Post wpAnyH wpOp
end Go.Proofs.YtpajjnkmaebhcabGreat
end
section
namespace Go.Proofs.YtpajjnkmaebhcabGreat
open Go.RowKit Go.Sl Fil
set_option maxRecDepth 100000
set_option maxHeartbeats 8000000
set_option linter.unusedVariables false
set_option linter.unusedSimpArgs false
attribute [local irreducible] Code.wp wpList bodyPost wpQuiet Exit.then Exit.inBlock Post wpAnyH wpOp
end Go.Proofs.YtpajjnkmaebhcabGreat
end
section
set_option linter.unusedVariables false
namespace Fil
structure WF (N : Nat) (A : Nat → Option (List Nat)) : Prop where
  out : ∀ v, N ≤ v → A v = none
  nd : ∀ v l, A v = some l → l.Nodup
  ne : ∀ v l, A v = some l → ∀ u ∈ l, u ≠ v
  sym : ∀ v l, A v = some l → ∀ u ∈ l, ∃ m, A u = some m ∧ v ∈ m
theorem WF.lt {N : Nat} {A : Nat → Option (List Nat)} (h : WF N A) {v : Nat} {l : List Nat} (hA : A v = some l) : v < N := by
  refine Decidable.byContradiction fun hn => ?_
  rw [h.out v (by omega)] at hA; simp at hA
theorem WF.all {N : Nat} {A : Nat → Option (List Nat)} (h : WF N A) {v : Nat} {l : List Nat} (hA : A v = some l) : ∀ u ∈ l, u < N ∧ u ≠ v ∧ ∃ m, A u = some m := fun u hu => by
  obtain ⟨m, hm, _⟩ := h.sym v l hA u hu
  exact ⟨h.lt hm, h.ne v l hA u hu, m, hm⟩
theorem WF.len {N : Nat} {A : Nat → Option (List Nat)} (h : WF N A) {v : Nat} {l : List Nat} (hA : A v = some l) : l.length ≤ N := nodup_length (h.nd v l hA) fun u hu => (h.all hA u hu).1
/-- what takeF holds -/
theorem takeF_some {N : Nat} {A : Nat → Option (List Nat)} {v : Nat} {l : List Nat} (h : WF N A) (hA : A v = some l) {u : Nat} {m : List Nat} : takeF A v l u = some m ↔ u ≠ v ∧ ∃ m0, A u = some m0 ∧ m = m0.filter fun a => a ≠ v := by
  unfold takeF
  by_cases hu : u = v
  · simp [hu]
  · rw [if_neg hu]
    by_cases hl : u ∈ l
    · rw [if_pos hl, Option.map_eq_some_iff]
      exact ⟨fun ⟨a, h1, h2⟩ => ⟨hu, a, h1, h2.symm⟩, fun ⟨_, a, h1, h2⟩ => ⟨a, h1, h2.symm⟩⟩
    · rw [if_neg hl]
      refine ⟨fun hm => ⟨hu, m, hm, ?_⟩, fun ⟨_, m0, h1, h2⟩ => ?_⟩
      · refine (List.filter_eq_self.2 fun a ha => ?_).symm
        simp only [decide_eq_true_eq]
        rintro rfl
        obtain ⟨l', h1, h2⟩ := h.sym u m hm a ha
        rw [hA] at h1
        obtain rfl : l = l' := by simpa using h1
        exact hl h2
      · rw [h1, h2]
        refine congrArg some (List.filter_eq_self.2 fun a ha => ?_).symm
        simp only [decide_eq_true_eq]
        rintro rfl
        obtain ⟨l', h3, h4⟩ := h.sym u m0 h1 a ha
        rw [hA] at h3
        obtain rfl : l = l' := by simpa using h3
        exact hl h4
theorem takeF_none {N : Nat} {A : Nat → Option (List Nat)} {v : Nat} {l : List Nat} {u : Nat} : takeF A v l u = none ↔ u = v ∨ A u = none := by
  unfold takeF
  by_cases hu : u = v
  · simp [hu]
  · rw [if_neg hu]
    split <;> simp [hu]
theorem WF.take {N : Nat} {A : Nat → Option (List Nat)} {v : Nat} {l : List Nat} (h : WF N A) (hA : A v = some l) : WF N (takeF A v l) where
  out u hu := takeF_none (N := N).2 (.inr (h.out u hu))
  nd u m hm := by
    obtain ⟨_, m0, h1, rfl⟩ := (takeF_some h hA).1 hm
    exact (h.nd u m0 h1).sublist List.filter_sublist
  ne u m hm a ha := by
    obtain ⟨_, m0, h1, rfl⟩ := (takeF_some h hA).1 hm
    exact h.ne u m0 h1 a (List.mem_filter.1 ha).1
  sym u m hm a ha := by
    obtain ⟨huv, m0, h1, rfl⟩ := (takeF_some h hA).1 hm
    obtain ⟨ha1, ha2⟩ := List.mem_filter.1 ha
    obtain ⟨m1, h2, h3⟩ := h.sym u m0 h1 a ha1
    exact ⟨m1.filter fun b => b ≠ v, (takeF_some h hA).2 ⟨by simpa using ha2, m1, h2, rfl⟩, List.mem_filter.2 ⟨h3, by simpa using huv⟩⟩
def addN (m : List Nat) (b : Nat) : List Nat := if b ∈ m then m else m ++ [b]
/-- what is added to u's neighbours: bs but for u -/
def addL (m : List Nat) (u : Nat) (bs : List Nat) : List Nat := (bs.filter fun b => b ≠ u).foldl addN m
theorem addN_nodup {m : List Nat} {b : Nat} (h : m.Nodup) : (addN m b).Nodup := by
  unfold addN
  split
  · exact h
  · rename_i hb
    exact List.nodup_append.2 ⟨h, by simp, fun x hx y hy e => by
      obtain rfl : y = b := by simpa using hy
      exact hb (e ▸ hx)⟩
theorem mem_addN {m : List Nat} {b x : Nat} : x ∈ addN m b ↔ x ∈ m ∨ x = b := by
  unfold addN
  split
  · rename_i hb
    exact ⟨.inl, fun h => h.elim id (fun e => e ▸ hb)⟩
  · simp
theorem foldl_addN_nodup : ∀ (bs m : List Nat), m.Nodup → (bs.foldl addN m).Nodup
  | [], _, h => h
  | b :: bs, m, h => foldl_addN_nodup bs _ (addN_nodup h)
theorem mem_foldl_addN {x : Nat} : ∀ (bs m : List Nat), x ∈ bs.foldl addN m ↔ x ∈ m ∨ x ∈ bs
  | [], m => by simp
  | b :: bs, m => by rw [List.foldl_cons, mem_foldl_addN bs, mem_addN, List.mem_cons, or_assoc]
theorem mem_addL {m bs : List Nat} {u x : Nat} : x ∈ addL m u bs ↔ x ∈ m ∨ x ∈ bs ∧ x ≠ u := by
  rw [addL, mem_foldl_addN, List.mem_filter]
  simp
/-- those of l are joined -/
def joinF (A : Nat → Option (List Nat)) (l : List Nat) (u : Nat) : Option (List Nat) := if u ∈ l then (A u).map fun m => addL m u l else A u
theorem joinF_some {A : Nat → Option (List Nat)} {l : List Nat} {u : Nat} {m : List Nat} : joinF A l u = some m ↔ ∃ m0, A u = some m0 ∧ m = if u ∈ l then addL m0 u l else m0 := by
  unfold joinF
  by_cases h : u ∈ l
  · simp only [h, if_true, Option.map_eq_some_iff]
    exact ⟨fun ⟨a, h1, h2⟩ => ⟨a, h1, h2.symm⟩, fun ⟨a, h1, h2⟩ => ⟨a, h1, h2.symm⟩⟩
  · simp only [h, if_false]
    exact ⟨fun h => ⟨m, h, rfl⟩, fun ⟨a, h1, h2⟩ => by rw [h1, h2]⟩
theorem joinF_none {A : Nat → Option (List Nat)} {l : List Nat} {u : Nat} : joinF A l u = none ↔ A u = none := by
  unfold joinF
  split <;> simp
theorem WF.join {N : Nat} {A : Nat → Option (List Nat)} {l : List Nat} (h : WF N A) (hl : ∀ u ∈ l, ∃ m, A u = some m) : WF N (joinF A l) where
  out u hu := joinF_none.2 (h.out u hu)
  nd u m hm := by
    obtain ⟨m0, h1, rfl⟩ := joinF_some.1 hm
    split
    · exact foldl_addN_nodup _ _ (h.nd u m0 h1)
    · exact h.nd u m0 h1
  ne u m hm a ha := by
    obtain ⟨m0, h1, rfl⟩ := joinF_some.1 hm
    split at ha
    · rcases mem_addL.1 ha with h2 | h2
      · exact h.ne u m0 h1 a h2
      · exact h2.2
    · exact h.ne u m0 h1 a ha
  sym u m hm a ha := by
    obtain ⟨m0, h1, rfl⟩ := joinF_some.1 hm
    have old : a ∈ m0 → ∃ m', joinF A l a = some m' ∧ u ∈ m' := fun h2 => by
      obtain ⟨m1, h3, h4⟩ := h.sym u m0 h1 a h2
      refine ⟨_, joinF_some.2 ⟨m1, h3, rfl⟩, ?_⟩
      split
      · exact mem_addL.2 (.inl h4)
      · exact h4
    split at ha
    · rename_i hu
      rcases mem_addL.1 ha with h2 | h2
      · exact old h2
      · obtain ⟨m1, h3⟩ := hl a h2.1
        refine ⟨_, joinF_some.2 ⟨m1, h3, rfl⟩, ?_⟩
        rw [if_pos h2.1]
        exact mem_addL.2 (.inr ⟨hu, fun e => h2.2 e.symm⟩)
    · exact old ha
def leftN (N : Nat) (A : Nat → Option (List Nat)) : Nat := (List.range N).countP fun v => (A v).isSome
theorem leftN_take {N : Nat} {A : Nat → Option (List Nat)} {v : Nat} {l : List Nat} (h : WF N A) (hA : A v = some l) : leftN N (takeF A v l) + 1 ≤ leftN N A := by
  refine countP_lt (fun u hu => ?_) (List.mem_range.2 (h.lt hA)) (by simp [takeF]) (by simp [hA])
  cases ha : A u with
  | none => rw [takeF_none (N := N).2 (.inr ha)] at hu; simp at hu
  | some m => rfl
/-- one step of the elimination -/
def elimF (A : Nat → Option (List Nat)) (v : Nat) : Nat → Option (List Nat) := joinF (takeF A v ((A v).getD [])) (sortN ((A v).getD []))
def runS (N : Nat) : Nat → (Nat → Option (List Nat)) → List (Nat × List Nat)
  | 0, _ => []
  | k + 1, A => match fewI A N with
    | none => []
    | some v => (v, sortN ((A v).getD [])) :: runS N k (elimF A v)
theorem WF.elim {N : Nat} {A : Nat → Option (List Nat)} (h : WF N A) {v : Nat} {l : List Nat} (hA : A v = some l) : WF N (elimF A v) := by
  rw [elimF, hA]
  refine (h.take hA).join fun u hu => ?_
  have hu : u ∈ l := (sortN_perm l).mem_iff.1 hu
  obtain ⟨_, h2, m, h3⟩ := h.all hA u hu
  exact ⟨_, (takeF_some h hA).2 ⟨h2, m, h3, rfl⟩⟩
theorem WF.near {n : Int} {es : List E} (hR : RightG n es) (hnd : ∀ u, (nearS (tn es) u).Nodup) : WF n.toNat (fun v => if v < n.toNat then some (nearS (tn es) v) else none) where
  out v hv := if_neg (by omega)
  nd v l h := by
    split at h
    · obtain rfl : _ = l := by simpa using h
      exact hnd v
    · simp at h
  ne v l h u hu := by
    split at h
    · obtain rfl : _ = l := by simpa using h
      rw [mem_nearS] at hu
      intro e
      subst e
      have hl : ∀ e ∈ tn es, e.1 ≠ e.2 := fun e he => by have := hR.good.lt e he; omega
      rcases (mem_nb hl).1 hu with h | h <;> exact hl _ h rfl
    · simp at h
  sym v l h u hu := by
    split at h
    · rename_i hv
      obtain rfl : _ = l := by simpa using h
      rw [mem_nearS] at hu
      have hun := hR.good.adj.lt v hv u hu
      exact ⟨_, if_pos hun, mem_nearS.2 (hR.good.adj.sym v u hv hu)⟩
    · simp at h
end Fil
end
section
namespace Go.Sl
open Go Go.RowKit Fil
end Go.Sl
namespace Fil
end Fil
namespace Go.Proofs.YtpajjnkmaebhcabGreat
open Go.RowKit Go.Sl Fil
set_option maxRecDepth 100000
set_option maxHeartbeats 8000000
set_option linter.unusedVariables false
set_option linter.unusedSimpArgs false
attribute [local irreducible] Code.wp wpList bodyPost wpQuiet Exit.then Exit.inBlock Post wpAnyH wpOp
end Go.Proofs.YtpajjnkmaebhcabGreat
end
section
namespace Fil
abbrev nearF (N : Nat) (l : List (Nat × Nat)) (v : Nat) : Option (List Nat) := if v < N then some (nearS l v) else none
/-- those of a list go, one behind the other -/
def goneF (A : Nat → Option (List Nat)) (l : List Nat) : Nat → Option (List Nat) := l.foldl (fun A u => takeF A u ((A u).getD [])) A
theorem goneF_ok {N : Nat} : ∀ (l : List Nat) (A : Nat → Option (List Nat)), WF N A → l.Nodup → (∀ u ∈ l, ∃ m, A u = some m) → WF N (goneF A l) ∧ (∀ u, goneF A l u = none ↔ u ∈ l ∨ A u = none) ∧ (∀ u m, goneF A l u = some m → ∃ m0, A u = some m0 ∧ m = m0.filter fun a => a ∉ l) := by
  intro l
  induction l with
  | nil => intro A h _ _; exact ⟨h, by simp [goneF], fun u m hm => ⟨m, hm, (List.filter_eq_self.2 (by simp)).symm⟩⟩
  | cons a l ih =>
    intro A h hn hs
    obtain ⟨m, hA⟩ := hs a (by simp)
    obtain ⟨hn1, hn2⟩ := List.nodup_cons.1 hn
    have hg : goneF A (a :: l) = goneF (takeF A a m) l := by simp [goneF, hA]
    rw [hg]
    obtain ⟨h1, h2, h3⟩ := ih (takeF A a m) (h.take hA) hn2 (fun u hu => by
      obtain ⟨m', h'⟩ := hs u (by simp [hu])
      exact ⟨_, (takeF_some h hA).2 ⟨fun e => hn1 (e ▸ hu), m', h', rfl⟩⟩)
    refine ⟨h1, fun u => ?_, fun u m' hm => ?_⟩
    · rw [h2, takeF_none (N := N), List.mem_cons]
      constructor
      · rintro (h | h | h)
        · exact .inl (.inr h)
        · exact .inl (.inl h)
        · exact .inr h
      · rintro ((h | h) | h)
        · exact .inr (.inl h)
        · exact .inl h
        · exact .inr (.inr h)
    · obtain ⟨m0, e1, e2⟩ := h3 u m' hm
      obtain ⟨hua, m1, e3, e4⟩ := (takeF_some h hA).1 e1
      refine ⟨m1, e3, ?_⟩
      rw [e2, e4, List.filter_filter]
      apply List.filter_congr
      intro x _
      simp only [List.mem_cons, not_or]
      by_cases h1 : x = a <;> by_cases h2 : x ∈ l <;> simp [h1, h2]
theorem leftN_gone {N : Nat} : ∀ (l : List Nat) (A : Nat → Option (List Nat)), WF N A → l.Nodup → (∀ u ∈ l, ∃ m, A u = some m) → leftN N (goneF A l) ≤ leftN N A := by
  intro l A h hn hs
  obtain ⟨_, h2, _⟩ := goneF_ok l A h hn hs
  refine List.countP_mono_left fun u _ hu => ?_
  cases ha : A u with
  | none => rw [(h2 u).2 (.inr ha)] at hu; simp at hu
  | some m => rfl
theorem green {N : Nat} {A : Nat → Option (List Nat)} {v : Nat} {l : List Nat} (h : WF N A) (hA : A v = some l) : WF N (goneF (takeF A v l) (sortN l)) ∧ leftN N (goneF (takeF A v l) (sortN l)) + 1 ≤ leftN N A ∧ (sortN l).Nodup ∧ ∀ u ∈ sortN l, u < N ∧ ∃ m, takeF A v l u = some m := by
  have hn : (sortN l).Nodup := (sortN_perm l).nodup_iff.2 (h.nd v l hA)
  have hm : ∀ u ∈ sortN l, u < N ∧ ∃ m, takeF A v l u = some m := fun u hu => by
    have hu : u ∈ l := (sortN_perm l).mem_iff.1 hu
    obtain ⟨h1, h2, m, h3⟩ := h.all hA u hu
    exact ⟨h1, _, (takeF_some h hA).2 ⟨h2, m, h3, rfl⟩⟩
  have h1 := goneF_ok (sortN l) (takeF A v l) (h.take hA) hn (fun u hu => (hm u hu).2)
  have h2 := leftN_gone (sortN l) (takeF A v l) (h.take hA) hn (fun u hu => (hm u hu).2)
  have h3 := leftN_take h hA
  exact ⟨h1.1, by omega, hn, hm⟩
end Fil
namespace Go.Sl
open Go Go.RowKit
end Go.Sl
namespace Go.Proofs.YtpajjnkmaebhcabGreat
open Go.RowKit Go.Sl Fil
set_option maxRecDepth 100000
set_option maxHeartbeats 8000000
set_option linter.unusedVariables false
set_option linter.unusedSimpArgs false
attribute [local irreducible] Code.wp wpList bodyPost wpQuiet Exit.then Exit.inBlock Post wpAnyH wpOp
end Go.Proofs.YtpajjnkmaebhcabGreat
end
section
set_option linter.unusedVariables false
namespace Fil
def gA (near : List (List Nat)) (gone : List Bool) (v : Nat) : Option (List Nat) := if gone.getD v false = true then none else some ((near.getD v []).filter fun u => !gone.getD u false)
/-- a number put behind the last one that is not greater -/
def posK (l : List Nat) (x : Nat) : Nat → Nat
  | 0 => 0
  | k + 1 => if x < l.getD k 0 then posK l x k else k + 1
def posL (l : List Nat) (x : Nat) : Nat := posK l x l.length
def putL' (l : List Nat) (x : Nat) : List Nat := l.take (posL l x) ++ [x] ++ l.drop (posL l x)
theorem putL_perm (l : List Nat) (x : Nat) : (putL' l x).Perm (l ++ [x]) := by
  have h : l ++ [x] = l.take (posL l x) ++ l.drop (posL l x) ++ [x] := by rw [List.take_append_drop]
  rw [h, putL', List.append_assoc, List.append_assoc]
  exact List.Perm.append_left _ List.perm_append_comm
theorem putL_length (l : List Nat) (x : Nat) : (putL' l x).length = l.length + 1 := by
  rw [(putL_perm l x).length_eq]; simp
theorem mem_putL {l : List Nat} {x u : Nat} : u ∈ putL' l x ↔ u ∈ l ∨ u = x := by
  rw [(putL_perm l x).mem_iff]; simp
def goneL (gone : List Bool) (l : List Nat) : List Bool := l.foldl (fun g u => g.set u true) gone
theorem goneL_length : ∀ (l : List Nat) (gone : List Bool), (goneL gone l).length = gone.length
  | [], _ => rfl
  | u :: l, gone => by
    show (goneL (gone.set u true) l).length = _
    rw [goneL_length l]; simp
theorem set_true {gone : List Bool} {u a : Nat} (hu : u < gone.length) : (gone.set u true).getD a false = true ↔ a = u ∨ gone.getD a false = true := by
  rw [List.getD_eq_getElem?_getD, List.getElem?_set, List.getD_eq_getElem?_getD]
  by_cases e : u = a
  · subst e; simp [hu]
  · rw [if_neg e]
    exact ⟨.inr, fun h => h.elim (fun h => (e h.symm).elim) id⟩
theorem goneL_get : ∀ {l : List Nat} {gone : List Bool} {a : Nat}, (∀ u ∈ l, u < gone.length) → ((goneL gone l).getD a false = true ↔ a ∈ l ∨ gone.getD a false = true)
  | [], gone, a, _ => by simp [goneL]
  | u :: l, gone, a, h => by
    show (goneL (gone.set u true) l).getD a false = true ↔ _
    rw [goneL_get (fun x hx => by rw [List.length_set]; exact h x (by simp [hx])), set_true (h u (by simp)), List.mem_cons]
    constructor
    · rintro (h | h | h)
      · exact .inl (.inr h)
      · exact .inl (.inl h)
      · exact .inr h
    · rintro ((h | h) | h)
      · exact .inr (.inl h)
      · exact .inl h
      · exact .inr (.inr h)
def jr1 (l : List Nat) (i : Nat) (near : List (List Nat)) (k : Nat) : List (List Nat) := if i ≠ k ∧ l.getD k 0 ∉ near.getD (l.getD i 0) [] then near.set (l.getD i 0) (putL' (near.getD (l.getD i 0) []) (l.getD k 0)) else near
def jrI (l : List Nat) (near : List (List Nat)) (i j : Nat) : List (List Nat) := (List.range j).foldl (jr1 l i) near
def jrO (l : List Nat) (near : List (List Nat)) (i : Nat) : List (List Nat) := (List.range i).foldl (fun nr i => jrI l nr i l.length) near
theorem jrI_succ (l : List Nat) (near : List (List Nat)) (i j : Nat) : jrI l near i (j + 1) = jr1 l i (jrI l near i j) j := by simp [jrI, List.range_succ]
theorem jrO_succ (l : List Nat) (near : List (List Nat)) (i : Nat) : jrO l near (i + 1) = jrI l (jrO l near i) i l.length := by simp [jrO, List.range_succ]
structure NW (N : Nat) (near : List (List Nat)) : Prop where
  len : near.length = N
  nd : ∀ l ∈ near, l.Nodup
  lt : ∀ l ∈ near, ∀ u ∈ l, u < N
theorem NW.small {N : Nat} {near : List (List Nat)} (h : NW N near) {l : List Nat} (hl : l ∈ near) : l.length ≤ N := nodup_length (h.nd l hl) (h.lt l hl)
theorem NW.put {N : Nat} {near : List (List Nat)} (h : NW N near) {a x : Nat} (hx : x < N) (hn : x ∉ near.getD a []) : NW N (near.set a (putL' (near.getD a []) x)) where
  len := by rw [List.length_set, h.len]
  nd l hl := by
    rcases List.mem_or_eq_of_mem_set hl with h' | rfl
    · exact h.nd l h'
    · refine (putL_perm _ _).nodup_iff.2 (List.nodup_append.2 ⟨?_, by simp, fun y hy z hz e => ?_⟩)
      · rw [List.getD_eq_getElem?_getD]
        cases e : near[a]? with
        | none => simp
        | some m => exact h.nd m (List.mem_of_getElem? e)
      · obtain rfl : z = x := by simpa using hz
        subst e
        exact hn hy
  lt l hl u hu := by
    rcases List.mem_or_eq_of_mem_set hl with h' | rfl
    · exact h.lt l h' u hu
    · rcases mem_putL.1 hu with hu | rfl
      · rw [List.getD_eq_getElem?_getD] at hu
        cases e : near[a]? with
        | none => rw [e] at hu; simp at hu
        | some m => rw [e] at hu; exact h.lt m (List.mem_of_getElem? e) u hu
      · exact hx
theorem NW.jr1 {N : Nat} {near : List (List Nat)} (h : NW N near) {l : List Nat} (hl : ∀ u ∈ l, u < N) (i : Nat) {k : Nat} (hk : k < l.length) : NW N (jr1 l i near k) := by
  unfold Fil.jr1
  split
  · rename_i hc
    refine h.put ?_ hc.2
    rw [List.getD_eq_getElem?_getD, List.getElem?_eq_getElem hk]
    exact hl _ (List.getElem_mem hk)
  · exact h
theorem NW.jrI {N : Nat} {near : List (List Nat)} (h : NW N near) {l : List Nat} (hl : ∀ u ∈ l, u < N) (i : Nat) : ∀ j, j ≤ l.length → NW N (jrI l near i j)
  | 0, _ => h
  | j + 1, hj => by
    rw [jrI_succ]
    exact (NW.jrI h hl i j (by omega)).jr1 hl i (by omega)
theorem NW.jrO {N : Nat} {near : List (List Nat)} (h : NW N near) {l : List Nat} (hl : ∀ u ∈ l, u < N) : ∀ i, NW N (jrO l near i)
  | 0 => h
  | i + 1 => by
    rw [jrO_succ]
    exact (NW.jrO h hl i).jrI hl i _ (Nat.le_refl _)
/-- who is in a row then -/
theorem mem_jrI {N : Nat} {near : List (List Nat)} (h : NW N near) {l : List Nat} (hl : ∀ u ∈ l, u < N) {i : Nat} (hi : i < l.length) : ∀ (j : Nat), j ≤ l.length → ∀ (a x : Nat), x ∈ (jrI l near i j).getD a [] ↔ x ∈ near.getD a [] ∨ (a = l.getD i 0 ∧ ∃ k, k < j ∧ k ≠ i ∧ x = l.getD k 0)
  | 0, _, a, x => by
    show x ∈ near.getD a [] ↔ _
    exact ⟨.inl, fun h => h.elim id fun ⟨_, k, hk, _⟩ => by omega⟩
  | j + 1, hj, a, x => by
    have ih := mem_jrI h hl hi j (by omega)
    have hW := h.jrI hl i j (by omega)
    have hiN : l.getD i 0 < N := by
      rw [List.getD_eq_getElem?_getD, List.getElem?_eq_getElem hi]
      exact hl _ (List.getElem_mem hi)
    rw [jrI_succ]
    have hstep : x ∈ (Fil.jr1 l i (Fil.jrI l near i j) j).getD a [] ↔ x ∈ (Fil.jrI l near i j).getD a [] ∨ (a = l.getD i 0 ∧ j ≠ i ∧ x = l.getD j 0) := by
      unfold Fil.jr1
      split
      · rename_i hc
        rw [List.getD_eq_getElem?_getD, List.getElem?_set]
        by_cases e : l.getD i 0 = a
        · subst e
          rw [if_pos rfl, if_pos (by rw [hW.len]; exact hiN), Option.getD_some, mem_putL]
          exact ⟨fun h => h.elim .inl fun h => .inr ⟨rfl, fun e => hc.1 e.symm, h⟩, fun h => h.elim .inl fun h => .inr h.2.2⟩
        · rw [if_neg e, List.getD_eq_getElem?_getD]
          exact ⟨.inl, fun h => h.elim id fun h => (e h.1.symm).elim⟩
      · rename_i hc
        refine ⟨.inl, fun h => h.elim id fun ⟨h1, h2, h3⟩ => ?_⟩
        subst h1
        rw [h3]
        refine Decidable.byContradiction fun hn => hc ⟨fun e => h2 e.symm, hn⟩
    rw [hstep, ih]
    constructor
    · rintro ((h | ⟨h1, k, h2, h3, h4⟩) | ⟨h1, h2, h3⟩)
      · exact .inl h
      · exact .inr ⟨h1, k, by omega, h3, h4⟩
      · exact .inr ⟨h1, j, by omega, h2, h3⟩
    · rintro (h | ⟨h1, k, h2, h3, h4⟩)
      · exact .inl (.inl h)
      · by_cases e : k = j
        · subst e; exact .inr ⟨h1, h3, h4⟩
        · exact .inl (.inr ⟨h1, k, by omega, h3, h4⟩)
theorem mem_jrO {N : Nat} {near : List (List Nat)} (h : NW N near) {l : List Nat} (hl : ∀ u ∈ l, u < N) (hn : l.Nodup) : ∀ (i : Nat), i ≤ l.length → ∀ (a x : Nat), x ∈ (jrO l near i).getD a [] ↔ x ∈ near.getD a [] ∨ (a ∈ l.take i ∧ x ∈ l ∧ x ≠ a)
  | 0, _, a, x => by
    show x ∈ near.getD a [] ↔ _
    simp
  | i + 1, hi, a, x => by
    have ih := mem_jrO h hl hn i (by omega) a x
    obtain ⟨c, hc⟩ : ∃ c, l[i]? = some c := ⟨_, List.getElem?_eq_getElem (by omega)⟩
    have hg : l.getD i 0 = c := by rw [List.getD_eq_getElem?_getD, hc]; rfl
    rw [jrO_succ, mem_jrI (h.jrO hl i) hl (by omega) _ (Nat.le_refl _), ih, List.take_add_one, hc, hg]
    have key : (∃ k, k < l.length ∧ k ≠ i ∧ x = l.getD k 0) ↔ x ∈ l ∧ x ≠ c := by
      constructor
      · rintro ⟨k, hk, hki, rfl⟩
        rw [List.getD_eq_getElem?_getD, List.getElem?_eq_getElem hk, Option.getD_some]
        refine ⟨List.getElem_mem hk, fun e => hki ?_⟩
        have hii := (List.getElem?_eq_some_iff.1 hc)
        obtain ⟨h1, h2⟩ := hii
        exact (List.getElem?_inj hk hn).1 (by rw [List.getElem?_eq_getElem hk, List.getElem?_eq_getElem h1, e, h2])
      · rintro ⟨hx, hxc⟩
        obtain ⟨k, hk⟩ := List.mem_iff_getElem?.1 hx
        refine ⟨k, (List.getElem?_eq_some_iff.1 hk).1, fun e => ?_, by rw [List.getD_eq_getElem?_getD, hk]; rfl⟩
        subst e
        rw [hc] at hk
        exact hxc (by simpa using hk.symm)
    rw [key]
    simp only [Option.toList_some, List.mem_append, List.mem_singleton]
    constructor
    · rintro ((h | ⟨h1, h2, h3⟩) | ⟨h1, h2, h3⟩)
      · exact .inl h
      · exact .inr ⟨.inl h1, h2, h3⟩
      · exact .inr ⟨.inr h1, h2, h1 ▸ h3⟩
    · rintro (h | ⟨h1 | h1, h2, h3⟩)
      · exact .inl (.inl h)
      · exact .inl (.inr ⟨h1, h2, h3⟩)
      · exact .inr ⟨h1, h2, h1 ▸ h3⟩
def leftL (near : List (List Nat)) (gone : List Bool) (v : Nat) : List Nat := (near.getD v []).filter fun u => !gone.getD u false
structure Rel (N : Nat) (near : List (List Nat)) (gone : List Bool) (A : Nat → Option (List Nat)) : Prop where
  wf : WF N A
  nw : NW N near
  len : gone.length = N
  none : ∀ v, v < N → (A v = none ↔ gone.getD v false = true)
  some : ∀ v m, A v = some m → ∀ u, u ∈ m ↔ u ∈ near.getD v [] ∧ gone.getD u false = false
theorem Rel.few {N : Nat} {near : List (List Nat)} {gone : List Bool} {A : Nat → Option (List Nat)} (h : Rel N near gone A) : fewI (gA near gone) near.length = fewI A N := by
  rw [h.nw.len]
  refine fewI_congr fun v hv => ?_
  have h1 := h.none v hv
  unfold gA
  cases hA : A v with
  | none => rw [hA] at h1; rw [if_pos (h1.1 rfl)]
  | some m =>
    rw [hA] at h1
    rw [if_neg fun e => by simpa using h1.2 e]
    have hnd : (near.getD v []).Nodup := by
      rw [List.getD_eq_getElem?_getD, List.getElem?_eq_getElem (by rw [h.nw.len]; exact hv)]
      exact h.nw.nd _ (List.getElem_mem _)
    have hp := (List.perm_ext_iff_of_nodup (hnd.sublist List.filter_sublist) (h.wf.nd v m hA) (l₁ := (near.getD v []).filter fun u => !gone.getD u false)).2 fun u => by
      rw [h.some v m hA u, List.mem_filter]
      simp
    simp only [Option.map_some, hp.length_eq]
theorem Rel.left {N : Nat} {near : List (List Nat)} {gone : List Bool} {A : Nat → Option (List Nat)} (h : Rel N near gone A) {v : Nat} {l : List Nat} (hA : A v = Option.some l) : (leftL near (gone.set v true) v).Perm l := by
  have hv := h.wf.lt hA
  have hnd : (near.getD v []).Nodup := by
    rw [List.getD_eq_getElem?_getD, List.getElem?_eq_getElem (by rw [h.nw.len]; exact hv)]
    exact h.nw.nd _ (List.getElem_mem _)
  refine (List.perm_ext_iff_of_nodup (hnd.sublist List.filter_sublist) (h.wf.nd v l hA)).2 fun u => ?_
  rw [List.mem_filter, h.some v l hA u]
  have hs := set_true (gone := gone) (u := v) (a := u) (by rw [h.len]; exact hv)
  have hne : u ∈ near.getD v [] → gone.getD u false = false → u ≠ v := fun h1 h2 => h.wf.ne v l hA u ((h.some v l hA u).2 ⟨h1, h2⟩)
  constructor
  · rintro ⟨h1, h2⟩
    refine ⟨h1, ?_⟩
    cases hg : gone.getD u false
    · rfl
    · rw [hs.2 (.inr hg)] at h2; simp at h2
  · rintro ⟨h1, h2⟩
    refine ⟨h1, ?_⟩
    cases hg : (gone.set v true).getD u false
    · rfl
    · rcases hs.1 hg with e | e
      · exact (hne h1 h2 e).elim
      · rw [h2] at e; simp at e
theorem Rel.green {N : Nat} {near : List (List Nat)} {gone : List Bool} {A : Nat → Option (List Nat)} (h : Rel N near gone A) {v : Nat} {l : List Nat} (hA : A v = Option.some l) : Rel N near (goneL (gone.set v true) (near.getD v [])) (goneF (takeF A v l) (sortN l)) := by
  have hv := h.wf.lt hA
  obtain ⟨g1, g2, g3, g4⟩ := Fil.green h.wf hA
  obtain ⟨_, e2, e3⟩ := goneF_ok (sortN l) _ (h.wf.take hA) g3 (fun u hu => (g4 u hu).2)
  have hrow : ∀ u ∈ near.getD v [], u < (gone.set v true).length := by
    intro u hu
    rw [List.length_set, h.len]
    rw [List.getD_eq_getElem?_getD, List.getElem?_eq_getElem (by rw [h.nw.len]; exact hv)] at hu
    exact h.nw.lt _ (List.getElem_mem _) u hu
  have hgone : ∀ a, (goneL (gone.set v true) (near.getD v [])).getD a false = true ↔ a ∈ near.getD v [] ∨ a = v ∨ gone.getD a false = true := fun a => by
    rw [goneL_get hrow, set_true (by rw [h.len]; exact hv)]
  have hl : ∀ u, u ∈ sortN l ↔ u ∈ near.getD v [] ∧ gone.getD u false = false := fun u => by rw [(sortN_perm l).mem_iff]; exact h.some v l hA u
  refine ⟨g1, h.nw, by rw [goneL_length, List.length_set, h.len], fun a ha => ?_, fun a m hm u => ?_⟩
  · rw [e2, takeF_none (N := N), hgone, hl, h.none a ha]
    constructor
    · rintro (⟨h1, _⟩ | h1 | h1)
      · exact .inl h1
      · exact .inr (.inl h1)
      · exact .inr (.inr h1)
    · rintro (h1 | h1 | h1)
      · cases hg : gone.getD a false
        · exact .inl ⟨h1, rfl⟩
        · exact .inr (.inr rfl)
      · exact .inr (.inl h1)
      · exact .inr (.inr h1)
  · obtain ⟨m0, h1, rfl⟩ := e3 a m hm
    obtain ⟨hav, m1, h2, rfl⟩ := (takeF_some h.wf hA).1 h1
    rw [List.mem_filter, List.mem_filter, h.some a m1 h2 u]
    have hg := hgone u
    simp only [decide_eq_true_eq, hl]
    constructor
    · rintro ⟨⟨⟨h3, h4⟩, h5⟩, h6⟩
      refine ⟨h3, ?_⟩
      cases hc : (goneL (gone.set v true) (near.getD v [])).getD u false
      · rfl
      · rcases hg.1 hc with e | e | e
        · exact (h6 ⟨e, h4⟩).elim
        · exact (h5 e).elim
        · rw [h4] at e; simp at e
    · rintro ⟨h3, h4⟩
      have hn : ¬ (u ∈ near.getD v [] ∨ u = v ∨ gone.getD u false = true) := fun e => by rw [hg.2 e] at h4; simp at h4
      refine ⟨⟨⟨h3, ?_⟩, fun e => hn (.inr (.inl e))⟩, fun e => hn (.inl e.1)⟩
      cases hc : gone.getD u false
      · rfl
      · exact (hn (.inr (.inr hc))).elim
theorem Rel.elim {N : Nat} {near : List (List Nat)} {gone : List Bool} {A : Nat → Option (List Nat)} (h : Rel N near gone A) {v : Nat} {l : List Nat} (hA : A v = Option.some l) : Rel N (jrO (leftL near (gone.set v true) v) near (leftL near (gone.set v true) v).length) (gone.set v true) (elimF A v) := by
  have hv := h.wf.lt hA
  have hp := h.left hA
  have hnd : (leftL near (gone.set v true) v).Nodup := hp.nodup_iff.2 (h.wf.nd v l hA)
  have hlt : ∀ u ∈ leftL near (gone.set v true) v, u < N := fun u hu => (h.wf.all hA u (hp.mem_iff.1 hu)).1
  have hmem := mem_jrO h.nw hlt hnd _ (Nat.le_refl _)
  rw [List.take_length] at hmem
  refine ⟨h.wf.elim hA, h.nw.jrO hlt _, by rw [List.length_set, h.len], fun a ha => ?_, fun a m hm u => ?_⟩
  · rw [elimF, hA, Option.getD_some, joinF_none, takeF_none (N := N), set_true (by rw [h.len]; exact hv), h.none a ha]
  · rw [elimF, hA, Option.getD_some] at hm
    obtain ⟨m0, h1, rfl⟩ := joinF_some.1 hm
    obtain ⟨hav, m1, h2, rfl⟩ := (takeF_some h.wf hA).1 h1
    have hs := set_true (gone := gone) (u := v) (a := u) (by rw [h.len]; exact hv)
    have hs' : (gone.set v true).getD u false = false ↔ u ≠ v ∧ gone.getD u false = false := by
      cases hc : (gone.set v true).getD u false
      · refine ⟨fun _ => ?_, fun _ => rfl⟩
        have hn : ¬ (u = v ∨ gone.getD u false = true) := fun e => by rw [hs.2 e] at hc; simp at hc
        exact ⟨fun e => hn (.inl e), by cases hd : gone.getD u false; rfl; exact (hn (.inr hd)).elim⟩
      · refine ⟨fun e => by simp at e, fun ⟨e1, e2⟩ => ?_⟩
        rcases hs.1 hc with e | e
        · exact (e1 e).elim
        · rw [e2] at e; simp at e
    rw [hmem, hs', hp.mem_iff, hp.mem_iff]
    have hb : u ∈ (m1.filter fun a => decide (a ≠ v)) ↔ (u ∈ near.getD a [] ∧ gone.getD u false = false) ∧ u ≠ v := by
      rw [List.mem_filter, h.some a m1 h2 u]; simp
    have hal := (h.wf.all hA)
    have hul : u ∈ l → u ≠ v ∧ gone.getD u false = false := fun hu => ⟨h.wf.ne v l hA u hu, ((h.some v l hA u).1 hu).2⟩
    by_cases hain : a ∈ sortN l
    · have hain' : a ∈ l := (sortN_perm l).mem_iff.1 hain
      rw [if_pos hain, mem_addL, hb, (sortN_perm l).mem_iff]
      constructor
      · rintro (⟨⟨h3, h4⟩, h5⟩ | ⟨h3, h4⟩)
        · exact ⟨.inl h3, h5, h4⟩
        · exact ⟨.inr ⟨hain', h3, h4⟩, hul h3⟩
      · rintro ⟨h3 | ⟨_, h3, h4⟩, h5, h6⟩
        · exact .inl ⟨⟨h3, h6⟩, h5⟩
        · exact .inr ⟨h3, h4⟩
    · have hain' : a ∉ l := fun e => hain ((sortN_perm l).mem_iff.2 e)
      rw [if_neg hain, hb]
      constructor
      · rintro ⟨⟨h3, h4⟩, h5⟩
        exact ⟨.inl h3, h5, h4⟩
      · rintro ⟨h3 | ⟨h3, _⟩, h5, h6⟩
        · exact ⟨⟨h3, h6⟩, h5⟩
        · exact (hain' h3).elim
theorem nearL_get {N v : Nat} {ab : List (Nat × Nat)} (hv : v < N) : ((List.range N).map (nearS ab)).getD v [] = nearS ab v := by
  simp [List.getD_eq_getElem?_getD, hv]
theorem NW.first {n : Int} {es : List E} (hR : RightG n es) (hnd : ∀ u, (nearS (tn es) u).Nodup) : NW n.toNat ((List.range n.toNat).map (nearS (tn es))) where
  len := by simp
  nd l hl := by
    obtain ⟨v, _, rfl⟩ := List.mem_map.1 hl
    exact hnd v
  lt l hl u hu := by
    obtain ⟨v, hv, rfl⟩ := List.mem_map.1 hl
    exact ((WF.near hR hnd).all (v := v) (if_pos (by simpa using hv)) u hu).1
theorem Rel.first {n : Int} {es : List E} (hR : RightG n es) (hnd : ∀ u, (nearS (tn es) u).Nodup) : Rel n.toNat ((List.range n.toNat).map (nearS (tn es))) (List.replicate n.toNat false) (nearF n.toNat (tn es)) where
  wf := WF.near hR hnd
  nw := NW.first hR hnd
  len := by simp
  none v hv := by simp [nearF, hv, List.getD_eq_getElem?_getD]
  some v m hm u := by
    have hv := (WF.near hR hnd).lt hm
    rw [nearL_get hv]
    obtain rfl : nearS (tn es) v = m := by simpa [nearF, hv] using hm
    refine ⟨fun h => ⟨h, ?_⟩, fun h => h.1⟩
    simp only [List.getD_eq_getElem?_getD, List.getElem?_replicate]
    split <;> rfl
end Fil
end
section
namespace Go.Proofs.YtpajjnkmaebhcabGreat
open Go.RowKit Go.Sl Fil
set_option maxRecDepth 100000
set_option maxHeartbeats 8000000
set_option linter.unusedVariables false
set_option linter.unusedSimpArgs false
attribute [local irreducible] Code.wp wpList bodyPost wpQuiet Exit.then Exit.inBlock Post wpAnyH wpOp
end Go.Proofs.YtpajjnkmaebhcabGreat
end
section
namespace Go.Sl
open Go.RowKit
section
variable {P : Program} {w0 : World} {S0 : FS} {n : Nat} {F : List (Nat × Value)} {L : List HP} {rest : List Oper} {ops : Array Oper} {Q : Exit → Act → World → Prop} {d i : Nat} {v : Value} {ty : TypeId} {ps : String} {af : Array Edge} {o : Oper} {x : Operand} {t t' e : TypeId} {z : Value} {sz bytes : Nat}
end
end Go.Sl
namespace Go.Proofs.YtpajjnkmaebhcabGreat
open Go.RowKit Go.Sl Fil
set_option maxRecDepth 100000
set_option maxHeartbeats 8000000
set_option linter.unusedVariables false
set_option linter.unusedSimpArgs false
attribute [local irreducible] Code.wp wpList bodyPost wpQuiet Exit.then Exit.inBlock Post wpAnyH wpOp
theorem IndexI_ok (v : Value) (l : List Int) (x : Int) (w : World) (hs : Shp v l.length) (hr : RO w No v (iV l)) :
    Calls Tryz.prog 89 #[v, .int .i64 x] w (Post w No (Just (.int .i64 (match l.findIdx? fun y => y = x with | some i => (i : Int) | none => -1)))) := by
  have hm := hs.1
  simp only [maxLen] at hm
  refine enter0 (vs := [_, _]) Tryz.func89 rfl Tryz.ntmps89 rfl ?_
  repeat' first
    | refine k_then ?_ | refine c_seq ?_ | refine c_region ?_ | refine s_nil ?_ | refine s_move (by exact rfl) (by exact rfl) ?_ | refine s_assign (by exact rfl) (by exact rfl) ?_ | refine s_len (by exact rfl) (by exact rfl) (by assumption) ?_ | refine c_block ?_
  refine c_loop (fun k : Nat => k ≤ l.length ∧ ∀ y ∈ l.take k, decide (y = x) = false) (fun k => [(0, v), (1, .int .i64 x), (7, .int .i64 (l.length : Int)), (8, .int .i64 (k : Int))]) (fun _ => []) (fun k => l.length - k) 0 [] ⟨by omega, by simp⟩ rfl ⟨rfl, rfl, rfl, rfl, trivial⟩ ?_
  rintro k ⟨hk, hq⟩
  by_cases hlt : k < l.length
  · obtain ⟨c, hc⟩ : ∃ c, l[k]? = some c := ⟨_, List.getElem?_eq_getElem hlt⟩
    have h1 : (iV l)[k * 1]? = some (.int .i64 c) := by simp [iV, hc]
    by_cases hcx : c = x
    · repeat' first
        | refine k_then ?_ | refine c_seq ?_ | refine c_region ?_ | refine s_nil ?_ | refine s_move (by exact rfl) (by exact rfl) ?_ | refine s_assign (by exact rfl) (by exact rfl) ?_ | refine s_lss (by exact rfl) (by exact rfl) (by exact rfl) ?_ | refine s_eql (by exact rfl) (by exact rfl) (by exact rfl) ?_ | refine s_idx (by exact rfl) (by exact rfl) (by exact rfl) (by assumption) (by first | assumption | omega) ?_ | refine s_ld_ro (by exact rfl) (by exact rfl) (by assumption) (by assumption) ?_ | refine c_block ?_ | refine c_skip ?_ | refine c_ret ?_ | refine k_then_ret ?_ | refine k_blk_ret ?_ | (refine c_cond_p (by exact rfl) (fun h => ?_) (fun h => ?_) <;> try (exfalso; omega))
      refine ret1 [] rfl rfl rfl ⟨?_, rfl⟩
      have : l.findIdx? (fun y => decide (y = x)) = some k := by
        rw [List.findIdx?_eq_some_iff_getElem]
        obtain ⟨h1, h2⟩ := List.getElem?_eq_some_iff.1 hc
        refine ⟨h1, by rw [h2]; exact decide_eq_true hcx, fun j hj => ?_⟩
        rw [hq _ (List.mem_take_iff_getElem.2 ⟨j, by omega, rfl⟩)]
        simp
      rw [this]
    · repeat' first
        | refine k_then ?_ | refine c_seq ?_ | refine c_region ?_ | refine s_nil ?_ | refine s_move (by exact rfl) (by exact rfl) ?_ | refine s_assign (by exact rfl) (by exact rfl) ?_ | refine s_lss (by exact rfl) (by exact rfl) (by exact rfl) ?_ | refine s_eql (by exact rfl) (by exact rfl) (by exact rfl) ?_ | refine s_add (by exact rfl) (by exact rfl) (by exact rfl) (by omega) ?_ | refine s_idx (by exact rfl) (by exact rfl) (by exact rfl) (by assumption) (by first | assumption | omega) ?_ | refine s_ld_ro (by exact rfl) (by exact rfl) (by assumption) (by assumption) ?_ | refine c_block ?_ | refine c_skip ?_ | refine k_blk ?_ | (refine c_cond_p (by exact rfl) (fun h => ?_) (fun h => ?_) <;> try (exfalso; omega))
      refine c_round (k + 1) [] (by exact rfl) (by exact ⟨rfl, rfl, rfl, rfl, trivial⟩) ⟨by omega, ?_⟩ (by omega)
      rw [List.take_add_one, hc]
      intro y hy
      rcases List.mem_append.1 hy with hy | hy
      · exact hq y hy
      · obtain rfl : y = c := by simpa using hy
        exact decide_eq_false hcx
  · repeat' first
      | refine k_then ?_ | refine c_seq ?_ | refine c_region ?_ | refine s_nil ?_ | refine s_assign (by exact rfl) (by exact rfl) ?_ | refine s_lss (by exact rfl) (by exact rfl) (by exact rfl) ?_ | refine c_exit ?_ | refine c_ret ?_ | refine k_then_exit ?_ | refine k_blk_eq ?_ | (refine c_cond_p (by exact rfl) (fun h => ?_) (fun h => ?_) <;> try (exfalso; omega))
    rw [List.take_of_length_le (by omega)] at hq
    refine ret1 [] rfl rfl rfl ⟨by rw [List.findIdx?_eq_none_iff.2 hq], rfl⟩
end Go.Proofs.YtpajjnkmaebhcabGreat
end
section
namespace Fil
def Asc (l : List Nat) : Prop := l.Pairwise fun a b => a < b
end Fil
namespace Go.Proofs.YtpajjnkmaebhcabGreat
open Go.RowKit Go.Sl Fil
set_option maxRecDepth 100000
set_option maxHeartbeats 8000000
set_option linter.unusedVariables false
set_option linter.unusedSimpArgs false
attribute [local irreducible] Code.wp wpList bodyPost wpQuiet Exit.then Exit.inBlock Post wpAnyH wpOp
end Go.Proofs.YtpajjnkmaebhcabGreat
end
section
set_option linter.unusedVariables false
namespace Fil
/-- the choice that a number tells -/
def decL (of : List Nat) (c : Nat) (u : Nat) : Bool := decide (u ∈ of) && c.testBit (of.idxOf u)
/-- a table: over which vertices, and what it tells -/
abbrev Tab := List Nat × ((Nat → Bool) → Nat)
def TabOK (t : Tab) : Prop := ∀ S S' : Nat → Bool, (∀ u ∈ t.1, S u = S' u) → t.2 S = t.2 S'
def bestL (t : Tab) : List Nat := (List.range (2 ^ t.1.length)).map fun c => t.2 (decL t.1 c)
theorem bestL_length (t : Tab) : (bestL t).length = 2 ^ t.1.length := by simp [bestL]
def sumT (l : List Tab) (S : Nat → Bool) : Nat := (l.map fun t => t.2 S).sum
end Fil
end
section
namespace Go.Proofs.YtpajjnkmaebhcabGreat
open Go.RowKit Go.Sl Fil
set_option maxRecDepth 100000
set_option maxHeartbeats 8000000
set_option linter.unusedVariables false
set_option linter.unusedSimpArgs false
attribute [local irreducible] Code.wp wpList bodyPost wpQuiet Exit.then Exit.inBlock Post wpAnyH wpOp
end Go.Proofs.YtpajjnkmaebhcabGreat
end
section
namespace Go.Sl
open Go Go.RowKit Fil
/-- tables that are read -/
structure TabRO (w : World) (S : FS) (tv : List (Value × Value)) (tabs : List Tab) : Prop where
  len : tv.length = tabs.length
  tab : ∀ (i : Nat) h t, tv[i]? = some h → tabs[i]? = some t → Shp h.1 t.1.length ∧ RO w S h.1 (nV t.1) ∧ Shp h.2 (2 ^ t.1.length) ∧ RO w S h.2 (nV (bestL t))
end Go.Sl
namespace Go.Proofs.YtpajjnkmaebhcabGreat
open Go.RowKit Go.Sl Fil
set_option maxRecDepth 100000
set_option maxHeartbeats 8000000
set_option linter.unusedVariables false
set_option linter.unusedSimpArgs false
attribute [local irreducible] Code.wp wpList bodyPost wpQuiet Exit.then Exit.inBlock Post wpAnyH wpOp
end Go.Proofs.YtpajjnkmaebhcabGreat
end
section
set_option linter.unusedVariables false
set_option linter.unusedSimpArgs false
namespace Go.Sl
open Go Go.RowKit
/-- a block that is no cells -/
def objHP (b : Nat) (o : Obj) : HP where
  sat S w := S b ∧ w.heap[b]? = some o
  mono h h' := ⟨h _ h'.1, h'.2⟩
  move h h' := ⟨h'.1, (h _ h'.1 (Array.getElem?_eq_some_iff.1 h'.2).1).trans h'.2⟩
  bound h := ⟨⟨h.1, (Array.getElem?_eq_some_iff.1 h.2).1⟩, h.2⟩
/-- What is asked of a post: no frame has outgrown the stack. -/
class NL (Q : Exit → Act → World → Prop) : Prop where
  no : ¬ LetsOut Q
instance {K : Act → World → Prop} {Q : Exit → Act → World → Prop} [T : NL Q] : NL (Exit.then K Q) := ⟨fun ⟨a, w, h⟩ => T.no ⟨a, w, h⟩⟩
instance {id : Nat} {Q : Exit → Act → World → Prop} [T : NL Q] : NL (Exit.inBlock id Q) := ⟨fun ⟨a, w, h⟩ => T.no ⟨a, w, h⟩⟩
instance {P : Program} {fn : Func} {w : World} {S : FS} {G : Value → List HP → Prop} : NL (bodyPost P fn (Post w S G)) := ⟨fun ⟨_, _, v, L', _, h, _⟩ => by simp at h⟩
/-- the fence that lets all in, in a round's frame or not -/
abbrev RF (ro : Option Nat) : Fence := { Fence.wide with round := ro }
instance {ro : Option Nat} {m : Nat} {P : Program} {fn : Func} {w : World} {S : FS} {G : Value → List HP → Prop} : NL (bodyPostM (RF ro) m P fn (Post w S G)) := ⟨fun ⟨_, _, v, L', _, h, _⟩ => by simp at h⟩
instance {l : Nat} {P : Program} {R : Ending → World → Prop} : NL (roundPost P l R) := ⟨fun ⟨_, _, h⟩ => h⟩
instance : NL (fun _ _ _ => False) := ⟨fun ⟨_, _, h⟩ => h⟩
def noDef (o : Oper) : Bool := match o.op with
  | .defer _ => false
  | _ => true
section
variable {P : Program} {w0 : World} {S0 : FS} {n m : Nat} {F : List (Nat × Value)} {L : List HP} {o : Oper} {rest : List Oper} {ops : Array Oper} {Q Q' : Exit → Act → World → Prop} {d : Nat} {v : Value} {ro : Option Nat}
theorem rows_in {row : String} {args : Array Value} {w : World} {R : Value → World → Prop} (h : Rows P row args w R) : RowsIn (RF ro) m P row args w R :=
  fun c cs _ => let ⟨v, w', r, s⟩ := h c cs; ⟨v, w', r, (stepsIn_wide (P := P)).2 s⟩
theorem calls_in {f : FuncId} {args : Array Value} {w : World} {R : Ending → World → Prop} (h : Calls P f args w R) : CallsIn (RF ro) m P f args w R :=
  (callsIn_wide (n := m)).2 h
theorem calls_out {f : FuncId} {args : Array Value} {w : World} {R : Ending → World → Prop} (h : CallsIn (RF ro) m P f args w R) : Calls P f args w R :=
  (callsIn_wide (n := m)).1 h
theorem up_in {next next' : Act → World → Prop} {a : Act} {w : World} (ho : noDef o = true) (hQ : ¬ LetsOut Q) (hp : ∀ c a w, Q (.panic c) a w → Q' (.panic c) a w) (hn : ∀ a w, next a w → next' a w) (h : o.wp P a w next Q) : o.wpIn (RF ro) m P a w next' Q' := by
  refine ⟨fun _ _ => trivial, ?_⟩
  rw [Oper.semAt_eq ro _ o (fun c e => by rw [noDef, e] at ho; simp at ho)]
  unfold Oper.wp at h
  revert h
  generalize (execOp a.eval o).run P w = r
  intro h
  have key : ∀ f (args : Array Value) w', Calls P f args w' (fun
      | .returned v, w'' => next (a.put o.dst v) w''
      | .panicked chain, w'' => Q (.panic chain) a w''
      | .outgrown, _ => LetsOut Q) → CallsIn (RF ro) (m - 1) P f args w' (fun
      | .returned v, w'' => next' (a.put o.dst v) w''
      | .panicked chain, w'' => Q' (.panic chain) a w''
      | .outgrown, _ => LetsOut Q') := fun f args w' hc => calls_in (hc.mono fun e w'' he => by
    cases e with
    | returned v => exact hn _ _ he
    | panicked c => exact hp _ _ _ he
    | outgrown => exact (hQ he).elim)
  cases r with
  | ok nx w' =>
    cases nx with
    | value v => exact hn _ _ h
    | skip => exact hn _ _ h
    | defer d => exact hn _ _ h
    | enter f args => exact ⟨fun h => by simp [Fence.wide] at h, key f args w' h⟩
    | row row args => exact ⟨fun h => by simp [Fence.wide] at h, (rows_in h : RowsIn (RF ro) (m - 1) P row args w' _).mono fun v w'' h => hn _ _ h⟩
    | _ => exact h.elim
  | halt e w' =>
    cases e with
    | panic v => exact hp _ _ _ h
    | _ => exact h.elim
theorem list_in [T : NL Q] (rest2 : List Oper) : ∀ (pre : List Oper), pre.all noDef = true → ∀ a w, wpList P ops (Exit.then (wpListIn (RF ro) m P ops Q rest2) Q) pre a w → wpListIn (RF ro) m P ops Q (pre ++ rest2) a w
  | [], _, a, w, h => h
  | o :: pre, hd, a, w, h => by
    rw [List.all_cons, Bool.and_eq_true] at hd
    have ih := list_in rest2 pre hd.2
    simp only [List.cons_append, wpListIn]
    simp only [wpList] at h
    split
    · rename_i hw
      rw [if_pos hw] at h
      rcases h with h | ⟨_, h⟩
      · exact up_in hd.1 (fun ⟨a, w, h⟩ => T.no ⟨a, w, h⟩) (fun c a w h => h) ih h
      · exact (T.no (by obtain ⟨a, w, h⟩ := h; exact ⟨a, w, h⟩)).elim
    · rename_i hw
      rw [if_neg hw] at h
      exact ⟨fun _ _ => trivial, ih _ _ h⟩
theorem list_in0 [T : NL Q] {rest : List Oper} (hd : rest.all noDef = true) {a : Act} {w : World} (h : wpList P ops Q rest a w) : wpListIn (RF ro) m P ops Q rest a w := by
  have := list_in (P := P) (ops := ops) (Q := Q) (ro := ro) (m := m) [] rest hd a w
  rw [List.append_nil] at this
  refine this ?_
  have e : Exit.then (wpListIn (RF ro) m P ops Q []) Q = Q := by funext e a w; cases e <;> rfl
  rw [e]; exact h
theorem x_seq {x y : Code} (h : Reach w0 S0 n F L (x.wpIn (RF ro) m P (Exit.then (y.wpIn (RF ro) m P Q) Q))) : Reach w0 S0 n F L ((Code.seq x y).wpIn (RF ro) m P Q) := fun a w hf hs => wpIn_seq (h a w hf hs)
theorem x_skip (h : Reach w0 S0 n F L (Q .normal)) : Reach w0 S0 n F L (Code.skip.wpIn (RF ro) m P Q) := fun a w hf hs => wpIn_skip (h a w hf hs)
theorem x_exit {id : Nat} (h : Reach w0 S0 n F L (Q (.exit id))) : Reach w0 S0 n F L ((Code.exit id).wpIn (RF ro) m P Q) := fun a w hf hs => wpIn_exit (h a w hf hs)
theorem x_block {id : Nat} {c : Code} (h : Reach w0 S0 n F L (c.wpIn (RF ro) m P (Exit.inBlock id Q))) : Reach w0 S0 n F L ((Code.block id c).wpIn (RF ro) m P Q) := fun a w hf hs => wpIn_block (h a w hf hs)
theorem x_cond {c : Operand} {x y : Code} {t : Bool} (hc : ev F c = some (.bool t)) (ht : t = true → Reach w0 S0 n F L (x.wpIn (RF ro) m P Q)) (hf : t = false → Reach w0 S0 n F L (y.wpIn (RF ro) m P Q)) : Reach w0 S0 n F L ((Code.cond c x y).wpIn (RF ro) m P Q) :=
  fun a w hfr hs => by
    cases t with
    | true => exact wpIn_cond (hfr.eval hc) (ht rfl a w hfr hs)
    | false => exact wpIn_cond (hfr.eval hc) (hf rfl a w hfr hs)
theorem x_cond_p {c : Operand} {x y : Code} {p : Prop} [Decidable p] (hc : ev F c = some (.bool (decide p))) (ht : p → Reach w0 S0 n F L (x.wpIn (RF ro) m P Q)) (hf : ¬ p → Reach w0 S0 n F L (y.wpIn (RF ro) m P Q)) : Reach w0 S0 n F L ((Code.cond c x y).wpIn (RF ro) m P Q) :=
  x_cond hc (fun h => ht (of_decide_eq_true h)) (fun h => hf (of_decide_eq_false h))
theorem x_region {id : Nat} {l : List Oper} [NL Q] (hd : l.all noDef = true) (h : Reach w0 S0 n F L (wpList P l.toArray Q l)) : Reach w0 S0 n F L ((Code.region id l.toArray false).wpIn (RF ro) m P Q) := fun a w hf hs => wpIn_region_lit (list_in0 hd (h a w hf hs))
theorem x_loop {X : Type} {c : Code} (I : X → Prop) (IF : X → List (Nat × Value)) (IL : X → List HP) (μ : X → Nat) (x0 : X) (is : List Nat) (h0 : I x0) (hL : pick L is = some (IL x0)) (hF : covers F (IF x0))
    (round : ∀ x, I x → Reach w0 S0 n (IF x) (IL x) (c.wpIn (RF ro) m P (Exit.then (fun a w => ∃ y, I y ∧ μ y < μ x ∧ Fr (IF y) n a ∧ St w0 S0 (IL y) w) Q))) : Reach w0 S0 n F L ((Code.loop c).wpIn (RF ro) m P Q) := by
  intro a w hf hs
  refine wpIn_loop_ghost (fun k a w => ∃ x, I x ∧ μ x = k ∧ Fr (IF x) n a ∧ St w0 S0 (IL x) w) (μ x0) ⟨x0, h0, rfl, hf.weaken (covers_spec hF), hs.pick is hL⟩ ?_
  rintro k a w ⟨x, hx, rfl, hf, hs⟩
  refine wpIn_mono (round x hx a w hf hs) ?_
  intro e a w h
  cases e <;> first | exact h | (obtain ⟨y, hi, hy, hf, hs⟩ := h; exact ⟨μ y, hy, y, hi, rfl, hf, hs⟩)
theorem c_region_y {id : Nat} {l : List Oper} (pre rest2 : List Oper) [NL Q] (hl : l = pre ++ rest2) (hd : pre.all noDef = true) (h : Reach w0 S0 n F L (wpList P l.toArray (Exit.then (wpListIn (RF none) 0 P l.toArray Q rest2) Q) pre)) : Reach w0 S0 n F L ((Code.region id l.toArray false).wp P Q) :=
  fun a w hf hs => (wpIn_wide (n := 0)).1 (wpIn_region_lit (F := RF none) (by
    have := list_in (P := P) (ops := l.toArray) (Q := Q) (ro := none) (m := 0) rest2 pre hd a w (h a w hf hs)
    rwa [← hl] at this))
theorem y_rest [NL Q] (hd : rest.all noDef = true) (h : Reach w0 S0 n F L (wpList P ops Q rest)) : Reach w0 S0 n F L (wpListIn (RF ro) m P ops Q rest) := fun a w hf hs => list_in0 hd (h a w hf hs)
/-- what a call of yield comes to -/
def YieldOK (P : Program) (l : Nat) (vs : List Value) (W : World) (R : World → Prop) : Prop :=
  ∃ f tmps assign body, (Instr.yield l vs.toArray).run P W = .ok (.round l f tmps assign body) W ∧ ∀ m, RoundIn (RF none) m P l f tmps assign body W fun e W' => e = .returned (.bool true) ∧ R W'
/-- What an iterator does: it hands on N lists of values, one behind the other; a round turns a list of entries of the kind LL i into one of the kind LL (i + 1). -/
def IterOK (P : Program) (it : FuncId) (caps : List Value) (N : Nat) (vs : Nat → List Value) (w : World) (S : FS) : Prop :=
  ∀ (l : Nat) (LL : Nat → List HP → Prop),
    (∀ i M W' S', i < N → LL i M → Mod w S W' S' → sats M S' W' → YieldOK P l (vs i) W' fun W2 => ∃ M' S2, LL (i + 1) M' ∧ Mod W' S' W2 S2 ∧ sats M' S2 W2) →
    ∀ M, LL 0 M → sats M S w → Calls P it (Value.func (.yield l) #[] #[] :: caps).toArray w (Post w S fun _ L' => LL N L')
/-- the call of yield, in the iterator -/
theorem y_yield {c : Operand} {xs : Array Operand} {ts : Array TypeId} {ty : TypeId} {ps : String} {af : Array Edge} {l : Nat} {vs : List Value} {K : List HP → Prop} (hc : ev F c = some (.func (.yield l) #[] #[])) (hn : Nat.blt d n = true) (hxs : xs.toList.map (ev F) = vs.map some)
    (hy : ∀ W S, Mod w0 S0 W S → sats L S W → YieldOK P l vs W fun W2 => ∃ M' S2, K M' ∧ Mod W S W2 S2 ∧ sats M' S2 W2)
    (h : ∀ M', K M' → Reach w0 S0 n ((d, .bool true) :: F) M' (wpListIn (RF ro) m P ops Q rest)) : Reach w0 S0 n F L (wpListIn (RF ro) m P ops Q (⟨some d, .call { callee := .value c, args := xs, argTypes := ts }, ty, ps, af, none⟩ :: rest)) := by
  intro a w hf hs
  refine wpListIn_plain rfl fun K' hK' => ?_
  obtain ⟨S, hm, hl⟩ := hs
  obtain ⟨f, tmps, assign, body, hyr, hR⟩ := hy w S hm hl
  have hargs : xs.map a.eval = vs.toArray := by
    have : ∀ (l : List Operand) (us : List Value), l.map (ev F) = us.map some → l.map a.eval = us := by
      intro l
      induction l with
      | nil => intro us hu; cases us with | nil => rfl | cons _ _ => simp at hu
      | cons x l ih =>
        intro us hu
        cases us with
        | nil => simp at hu
        | cons u us =>
          simp only [List.map_cons, List.cons.injEq] at hu ⊢
          exact ⟨hf.eval hu.1, ih us hu.2⟩
    obtain ⟨l⟩ := xs
    rw [List.map_toArray, this l vs hxs]
  refine ⟨fun _ _ => trivial, ?_⟩
  rw [Oper.semAt_eq ro _ _ (fun c e => by simp at e)]
  have hr : (execOp a.eval ⟨some d, .call { callee := .value c, args := xs, argTypes := ts }, ty, ps, af, none⟩).run P w = .ok (.round l f tmps assign body) w := by
    have e : a.eval c = .func (.yield l) #[] #[] := hf.eval hc
    simp only [execOp, resolve, hargs, e, Deferred.ofValue, invoke, Sem.run_bind, Sem.run_pure, Result.andThen_ok, Array.append_empty, Array.empty_append, hyr]
  rw [hr, Oper.uponIn_round]
  refine ⟨fun h => by simp [Fence.wide] at h, (hR (m - 1)).mono ?_⟩
  rintro e W' ⟨rfl, M', S2, hk, hm2, hs2⟩
  exact hK' _ _ (h M' hk _ _ (hf.put hn) ⟨S2, hm.trans hm2, hs2⟩)
theorem c_region_k {id : Nat} {l : List Oper} (k : Nat) [NL Q] (hd : (l.take k).all noDef = true) (h : Reach w0 S0 n F L (wpList P l.toArray (Exit.then (wpListIn (RF none) 0 P l.toArray Q (l.drop k)) Q) (l.take k))) : Reach w0 S0 n F L ((Code.region id l.toArray false).wp P Q) :=
  c_region_y (l.take k) (l.drop k) (List.take_append_drop k l).symm hd h
theorem pick_id : ∀ (L : List HP), pick L (List.replicate L.length 0) = some L
  | [] => rfl
  | A :: L => by
    show (match (A :: L)[0]?, pick ((A :: L).eraseIdx 0) (List.replicate L.length 0) with | some A, some M => some (A :: M) | _, _ => none) = _
    rw [List.eraseIdx_zero, List.tail_cons, pick_id L]
    rfl
theorem RO.fwd {w : World} {S Sf : FS} {ys : List Value} (hr : RO w0 S0 v ys) (hm0 : Mod w0 S0 w Sf) (hS : ∀ k, S k → Sf k) : RO w S v ys := fun w' S' hm =>
  hr w' (fun k => Sf k ∨ S' k) (hm0.trans ⟨hm.os, hm.tape, hm.output, hm.drawn, hm.size, fun k hk hn => hm.keep k hk (fun h => hn (hS k h)), fun k hk => hk.elim .inl (fun h => (hm.new k h).imp (hS k) id)⟩)
theorem RB.fwd {w : World} {S Sf : FS} {b : Nat} {t : TypeId} {cs : List Value} (hr : RB w0 S0 b t cs) (hm0 : Mod w0 S0 w Sf) (hS : ∀ k, S k → Sf k) : RB w S b t cs := fun w' S' hm =>
  hr w' (fun k => Sf k ∨ S' k) (hm0.trans ⟨hm.os, hm.tape, hm.output, hm.drawn, hm.size, fun k hk hn => hm.keep k hk (fun h => hn (hS k h)), fun k hk => hk.elim .inl (fun h => (hm.new k h).imp (hS k) id)⟩)
theorem mod_putObj {w : World} {S : FS} {b : Nat} {x : Obj} (hb : S b) : Mod w S (w.putObj b x) S :=
  ⟨rfl, rfl, rfl, Nat.le_refl _, by simp, fun k hk hn => World.putObj_heap_other (fun e => hn (e ▸ hb)), fun k h => .inl h⟩
theorem putObj_at {w : World} {b : Nat} {x y : Obj} (h : w.heap[b]? = some y) : (w.putObj b x).heap[b]? = some x := by
  have hlt := (Array.getElem?_eq_some_iff.1 h).1
  simp [World.putObj, hlt]
theorem St.obj {w : World} {b j : Nat} {x : Obj} (h : St w0 S0 L w) (hj : L[j]? = some (objHP b x)) : w.heap[b]? = some x := by
  obtain ⟨S, hs⟩ := h.mem (List.mem_of_getElem? hj)
  exact hs.2
theorem St.turn {w : World} {b j : Nat} {x : Obj} (y : Obj) (h : St w0 S0 L w) (hj : L[j]? = some (objHP b x)) : St w0 S0 (L.set j (objHP b y)) (w.putObj b y) :=
  h.step hj fun S hs => ⟨S, mod_putObj hs.1, hs.1, putObj_at hs.2⟩
theorem fr_params : ∀ (ps : List Nat) (vs : List Value) {F : List (Nat × Value)} {t : Array Value}, ps.all (fun p => Nat.blt p n) = true → Fr F n { tmps := t, defers := [] } → Fr ((ps.zip vs).reverse ++ F) n { tmps := (ps.zip vs).foldl (fun t (p, v) => t.setIfInBounds p v) t, defers := [] }
  | [], vs, F, t, _, h => by simpa using h
  | p :: ps, [], F, t, _, h => by simpa using h
  | p :: ps, v :: vs, F, t, hp, h => by
    rw [List.all_cons, Bool.and_eq_true] at hp
    have := fr_params ps vs hp.2 (h.put (d := p) (v := v) hp.1)
    simpa [Act.put, List.append_assoc] using this
/-- the round begins -/
theorem r_begin {l j : Nat} {r : Loop} {K : Act → World → Prop} (hj : L[j]? = some (objHP l (.loop r))) (hr : r.state = .ready) (h : Reach w0 S0 n F (L.set j (objHP l (.loop { r with state := .busy }))) K) :
    Reach w0 S0 n F L (fun a w => ∃ w', (Instr.beginRound l).run P w = .ok () w' ∧ K a w') := fun a w hf hs =>
  ⟨_, run_beginRound (hs.obj hj) hr, h a _ hf (hs.turn _ hj)⟩
/-- the round ends -/
theorem r_end {l j : Nat} {r : Loop} {R : Ending → World → Prop} (is : List Nat) {M : List HP} (hj : L[j]? = some (objHP l (.loop r))) (hp : pick (L.set j (objHP l (.loop { r with state := .ready, pending := none }))) is = some M)
    (hR : ∀ W, St w0 S0 M W → R (.returned (.bool true)) W) : Reach w0 S0 n F L (roundPost P l R .normal) := fun a w hf hs =>
  ⟨_, _, run_endRound none (hs.obj hj), hR _ ((hs.turn _ hj).pick is hp)⟩
theorem yield_ok {W : World} {S : FS} {M : List HP} {l j : Nat} {r : Loop} {ps : List Nat} {vs : List Value} {R : World → Prop} (hj : M[j]? = some (objHP l (.loop r))) (hps : r.params = ps.toArray) (hpn : ps.all (fun p => Nat.blt p n) = true) (hlen : vs.length = ps.length) (hs : sats M S W) (hF : Fr F n { tmps := r.tmps, defers := [] })
    (h : ∀ m, Reach W S n ((ps.zip vs).reverse ++ F) M (r.assign.wpIn (RF (some l)) m P (Exit.then (fun a₁ w₁ => ∃ w₂, (Instr.beginRound l).run P w₁ = .ok () w₂ ∧ r.body.wpIn (RF (some l)) m P (roundPost P l fun e W' => e = .returned (.bool true) ∧ R W') a₁ w₂) (fun _ _ _ => False)))) : YieldOK P l vs W R := by
  have hSt : St W S M W := St.start hs
  refine ⟨r.fn, _, r.assign, r.body, run_yield (hSt.obj hj) (by simp [hps, hlen]), fun m => roundIn_of_wpIn trivial ?_⟩
  have hf := fr_params ps vs hpn hF
  refine h m _ W ?_ hSt
  have e : (r.params.zip vs.toArray).foldl (fun tmps (t, a) => tmps.setIfInBounds t a) r.tmps = (ps.zip vs).foldl (fun t (p, v) => t.setIfInBounds p v) r.tmps := by
    rw [hps, ← Array.foldl_toList]
    simp
  rw [e]
  exact hf
def actM (D : Nat) (a : Act) : Act := { a with defers := { target := .collected D, args := #[] } :: a.defers }
/-- operations that stand behind such a statement -/
def tailOp (o : Oper) : Bool := match o.op with
  | .load .. | .assign _ | .move _ | .store .. => true
  | _ => false
theorem tail_run {a : Act} {w : World} (ho : tailOp o = true) : (∃ v w', (execOp a.eval o).run P w = .ok (.value v) w') ∨ (∃ w', (execOp a.eval o).run P w = .ok .skip w') ∨ (∃ e w', (execOp a.eval o).run P w = .halt e w') := by
  unfold tailOp at ho
  split at ho
  · rename_i t x e
    simp only [execOp, e, Sem.run_bind]
    cases (Instr.loadAt t (a.eval x)).run P w with
    | ok v w' => exact .inl ⟨v, w', rfl⟩
    | halt e w' => exact .inr (.inr ⟨e, w', rfl⟩)
  · rename_i x e
    simp only [execOp, e]
    exact .inl ⟨_, _, rfl⟩
  · rename_i x e
    simp only [execOp, e]
    exact .inl ⟨_, _, rfl⟩
  · rename_i t x y e
    simp only [execOp, e, Sem.run_bind]
    cases (Instr.storeAt t (a.eval x) (a.eval y)).run P w with
    | ok v w' => exact .inr (.inl ⟨w', rfl⟩)
    | halt e w' => exact .inr (.inr ⟨e, w', rfl⟩)
  · simp at ho
theorem actM_put (D : Nat) (a : Act) (d : Option Nat) (v : Value) : (actM D a).put d v = actM D (a.put d v) := by cases d <;> rfl
theorem up_M {next next' : Act → World → Prop} {a : Act} {w : World} {D : Nat} (ho : tailOp o = true) (hp : ∀ c a w, Q (.panic c) a w → Q' (.panic c) (actM D a) w) (hn : ∀ a w, next a w → next' (actM D a) w) (h : o.wp P a w next Q) : o.wp P (actM D a) w next' Q' := by
  unfold Oper.wp at h ⊢
  have he : execOp (actM D a).eval o = execOp a.eval o := rfl
  rw [he]
  rcases tail_run (P := P) (a := a) (w := w) ho with ⟨v, w', e⟩ | ⟨w', e⟩ | ⟨e', w', e⟩
  · rw [e] at h ⊢
    show next' ((actM D a).put o.dst v) w'
    rw [actM_put]
    exact hn _ _ h
  · rw [e] at h ⊢
    show next' ((actM D a).put o.dst undef) w'
    rw [actM_put]
    exact hn _ _ h
  · rw [e] at h ⊢
    cases e' with
    | panic v => exact hp _ _ _ h
    | _ => exact h.elim
theorem list_M {D : Nat} [T : NL Q] : ∀ (rest : List Oper), rest.all tailOp = true → ∀ a w, wpList P ops (fun e a w => Q e (actM D a) w) rest a w → wpList P ops Q rest (actM D a) w
  | [], _, a, w, h => h
  | o :: rest, ho, a, w, h => by
    rw [List.all_cons, Bool.and_eq_true] at ho
    have ih := list_M (D := D) rest ho.2
    simp only [wpList] at h ⊢
    have hw' : Region.wanted o (yielded ops (actM D a).tmps) = Region.wanted o (yielded ops a.tmps) := rfl
    rw [hw']
    split
    · rename_i hw
      rw [if_pos hw] at h
      rcases h with h | ⟨_, a', w', h⟩
      · exact .inl (up_M ho.1 (fun c a w h => h) ih h)
      · exact (T.no ⟨_, _, h⟩).elim
    · rename_i hw
      rw [if_neg hw] at h
      have := ih _ _ h
      rwa [← actM_put] at this
theorem m_seq {D : Nat} {x y : Code} (h : Reach w0 S0 n F L (fun a w => x.wp P (Exit.then (y.wp P Q) Q) (actM D a) w)) : Reach w0 S0 n F L (fun a w => (Code.seq x y).wp P Q (actM D a) w) := fun a w hf hs => wp_seq (h a w hf hs)
theorem m_region {D : Nat} {id : Nat} {l : List Oper} [NL Q] (hd : l.all tailOp = true) (h : Reach w0 S0 n F L (wpList P l.toArray (fun e a w => Q e (actM D a) w) l)) : Reach w0 S0 n F L (fun a w => (Code.region id l.toArray false).wp P Q (actM D a) w) := fun a w hf hs => wp_region_lit (list_M l hd _ _ (h a w hf hs))
theorem m_then {D : Nat} {K : Act → World → Prop} (h : Reach w0 S0 n F L (fun a w => K (actM D a) w)) : Reach w0 S0 n F L (fun a w => Exit.then K Q .normal (actM D a) w) := h
theorem m_blk {D : Nat} {id : Nat} (h : Reach w0 S0 n F L (fun a w => Q .normal (actM D a) w)) : Reach w0 S0 n F L (fun a w => Exit.inBlock id Q .normal (actM D a) w) := h
theorem m_ret {D : Nat} (h : Reach w0 S0 n F L (fun a w => Q .ret (actM D a) w)) : Reach w0 S0 n F L (fun a w => Code.ret.wp P Q (actM D a) w) := fun a w hf hs => wp_ret (h a w hf hs)
/-- the return: the mark is come to -/
theorem m_end {D j : Nat} {fn : Func} {R : Ending → World → Prop} (hj : L[j]? = some (objHP D (.deferred (some [])))) (h : Reach w0 S0 n F (L.set j (objHP D (.deferred none))) (bodyPost P fn R .ret)) : Reach w0 S0 n F L (fun a w => bodyPostM (RF none) m P fn R .ret (actM D a) w) := by
  intro a w hf hs
  obtain ⟨hd, v, hr, hR⟩ := h a _ hf (hs.turn (.deferred none) hj)
  refine ⟨by simp, .inl ⟨D, _, rfl, run_takeDeferred (hs.obj hj), ?_⟩⟩
  show LeavesInM (RF none) m P fn a.tmps R a.defers .returning _
  rw [hd]
  exact ⟨v, hr, hR⟩
/-- a function in which such a statement stands -/
theorem enterM0 {f : FuncId} {fn : Func} {c : Code} {vs : List Value} {w : World} {G : Value → List HP → Prop} (hf : P.funcs[f]? = some fn) (hb : fn.body = some c) (hn : fn.ntmps = n) (hl : Nat.ble vs.length n = true)
    (h : Reach w No n (argsF 0 vs) [] (c.wp P (bodyPostM (RF none) 0 P fn (Post w No G)))) : Calls P f vs.toArray w (Post w No G) := by
  refine calls_out (m := 0) (ro := none) (callsIn_of_wp_marks hf hb trivial ((wpIn_wide (n := 0)).2 (h _ _ ⟨rfl, ?_, ?_⟩ (St.start trivial))) rfl)
  · have : vs.length ≤ n := by simpa using hl
    simp [hn]; omega
  · intro t u ht
    obtain ⟨j, rfl, hj⟩ := argsF_get vs 0 t u ht
    have hlt := (List.getElem?_eq_some_iff.1 hj).1
    simp only [Nat.zero_add, Array.getD_eq_getD_getElem?]
    rw [Array.getElem?_append_left (by simpa using hlt)]
    simp [hj]
/-- THE STATEMENT -/
theorem c_range {g : Operand} {ps : List Nat} {assign body : Code} [NL Q] (it : FuncId) (caps : List Value) (M0 Lr : List HP) (N : Nat) (vs : Nat → List Value) (LL : Nat → List HP → Prop) [T : FnTy P it] (hLL : L = M0 ++ Lr) (hg : ev F g = some (.func (.func it) #[] caps.toArray)) (hps : ps.all (fun p => Nat.blt p n) = true) (hlen : ∀ i, (vs i).length = ps.length)
    (hIt : ∀ w S M, Lent w0 S0 M Lr S w → IterOK P it caps N vs w S) (h0 : LL 0 M0)
    (hround : ∀ i M M2 W S l D (r : Loop) m, i < N → LL i M → M2 = objHP l (.loop r) :: objHP D (.deferred (some [])) :: M → Lent w0 S0 M2 Lr S W → r.state = .ready →
      Reach W S n ((ps.zip (vs i)).reverse ++ F) M2 (assign.wpIn (RF (some l)) m P (Exit.then (fun a₁ w₁ => ∃ w₂, (Instr.beginRound l).run P w₁ = .ok () w₂ ∧ body.wpIn (RF (some l)) m P (roundPost P l fun e W2 => e = .returned (.bool true) ∧ ∃ M' S2, (∃ M3, LL (i + 1) M3 ∧ M' = objHP l (.loop { r with state := .ready, pending := none }) :: objHP D (.deferred (some [])) :: M3) ∧ Mod W S W2 S2 ∧ sats M' S2 W2) a₁ w₂) (fun _ _ _ => False))))
    (hdone : ∀ M l D (r : Loop), LL N M → Reach w0 S0 n F (objHP l (.loop r) :: objHP D (.deferred (some [])) :: M ++ Lr) (fun a w => Q .normal (actM D a) w)) :
    Reach w0 S0 n F L ((Code.rangeFunc g ps.toArray assign body).wp P Q) := by
  subst hLL
  intro a w hf hs
  refine (wpIn_wide (n := 0)).1 (wpIn_rangeFunc fun fn _ => ?_)
  let D := w.heap.size
  let r : Loop := { state := .ready, pending := none, fn, tmps := a.tmps, params := ps.toArray, assign, body, defers := w.heap.size }
  let w1 := (w.alloc (.deferred (some []))).alloc (.loop r)
  have hs1 : St w0 S0 (objHP (w.heap.size + 1) (.loop r) :: objHP w.heap.size (.deferred (some [])) :: (M0 ++ Lr)) w1 := by
    have h1 : St w0 S0 ([objHP w.heap.size (.deferred (some []))] ++ (M0 ++ Lr)) (w.alloc (.deferred (some []))) := hs.push (mod_alloc w _) ⟨fun k => w.heap.size ≤ k, fun _ => False, fun k hk => hk, fun k hk => hk.elim, fun k _ hk => hk, ⟨Nat.le_refl _, World.alloc_heap_new w _⟩, trivial⟩
    have h2 := h1.push (M := [objHP (w.heap.size + 1) (.loop r)]) (mod_alloc (w.alloc (.deferred (some []))) (.loop r)) ⟨fun k => w.heap.size + 1 ≤ k, fun _ => False, fun k hk => by simpa using hk, fun k hk => hk.elim, fun k _ hk => hk, ⟨Nat.le_refl _, by have := World.alloc_heap_new (w.alloc (.deferred (some []))) (.loop r); rwa [World.size_alloc] at this⟩, trivial⟩
    exact h2
  obtain ⟨S, Sr, Sf, hm0, hsM, hsr, hSf, hSr, hdis⟩ := St.lend (L0 := objHP (w.heap.size + 1) (.loop r) :: objHP w.heap.size (.deferred (some [])) :: M0) (Lr := Lr) hs1
  have hlent : ∀ M W' S', Mod w1 S W' S' → sats M S' W' → Lent w0 S0 M Lr S' W' := fun M W' S' hm hl => by
    refine ⟨hl, ⟨fun k => Sf k ∨ S' k, ?_, fun k hk => .inr hk⟩, ⟨Sr, sats_move (fun k hk hlt => hm.keep k hlt (fun h => hdis k h hk)) hsr, fun k hk hk2 => ?_⟩⟩
    · exact hm0.trans ⟨hm.os, hm.tape, hm.output, hm.drawn, hm.size, fun k hk hn => hm.keep k hk (fun h => hn (hSf k h)), fun k hk => hk.elim .inl (fun h => (hm.new k h).imp (hSf k) id)⟩
    · rcases hm.new k hk with h | h
      · exact hdis k h hk2
      · have := (hSr k hk2).2; omega
  have hL0 := hlent _ w1 S (Mod.refl _ _) hsM
  have hfr : Fr F n { tmps := r.tmps, defers := [] } := ⟨rfl, hf.sz, hf.look⟩
  have hcall := hIt w1 S _ hL0 (w.heap.size + 1) (fun i M' => ∃ M3, LL i M3 ∧ M' = objHP (w.heap.size + 1) (.loop r) :: objHP w.heap.size (.deferred (some [])) :: M3) (fun i M W' S' hi hM hm hl => by
    obtain ⟨M3, hM3, rfl⟩ := hM
    refine yield_ok (j := 0) (r := r) (ps := ps) rfl rfl hps (hlen i) hl hfr fun m => ?_
    exact hround i M3 _ W' S' (w.heap.size + 1) w.heap.size r m hi hM3 rfl (hlent _ W' S' hm hl) rfl) _ ⟨M0, h0, rfl⟩ hsM
  refine ⟨w.heap.size + 1, [{ target := .collected w.heap.size, args := #[] }], w1, { target := .fn (.func it) caps.toArray, args := #[.func (.yield (w.heap.size + 1)) #[] #[]] }, w1, it, (Value.func (.yield (w.heap.size + 1)) #[] #[] :: caps).toArray, w1, run_enterLoop_outer .., ?_, fun _ _ => trivial, ?_, fun h => by simp [Fence.wide] at h, ?_⟩
  · have e : a.eval g = .func (.func it) #[] caps.toArray := hf.eval hg
    simp only [resolve, rangeCall, e, Deferred.ofValue, Sem.run_pure, List.map_toArray, List.map_cons, List.map_nil, Array.empty_append]
    rfl
  · simp only [invoke]
    have := T.c (#[.func (.yield (w.heap.size + 1)) #[] #[]] ++ caps.toArray) w1
    simpa using this
  · refine (calls_in (ro := none) (m := 0 - 1) hcall).mono ?_
    rintro e w3 ⟨v, L', ⟨M3, hM3, rfl⟩, rfl, S3, hm3, hl3⟩
    have hst : St w0 S0 (objHP (w.heap.size + 1) (.loop r) :: objHP w.heap.size (.deferred (some [])) :: M3 ++ Lr) w3 := by
      have hsr' : sats Lr Sr w3 := sats_move (fun k hk hlt => hm3.keep k hlt (fun h => hdis k h hk)) hsr
      refine ⟨fun k => S3 k ∨ Sr k, hm0.trans ⟨hm3.os, hm3.tape, hm3.output, hm3.drawn, hm3.size, fun k hk hn => hm3.keep k hk (fun h => hn (hSf k h)), ?_⟩, sats_append hl3 hsr' ?_⟩
      · rintro k (hk | hk)
        · exact (hm3.new k hk).imp (hSf k) id
        · exact .inl (hSr k hk).1
      · intro k hk hk2
        rcases hm3.new k hk with h | h
        · exact hdis k h hk2
        · have := (hSr k hk2).2; omega
    refine ⟨none, _, run_endLoop (hst.obj (j := 0) rfl) (by simp [r]), ?_⟩
    exact hdone M3 _ _ _ hM3 a _ hf (hst.turn (j := 0) _ rfl)
end
end Go.Sl
end
section
namespace Go.Proofs.YtpajjnkmaebhcabGreat
open Go.RowKit Go.Sl Fil
set_option maxRecDepth 100000
set_option maxHeartbeats 8000000
set_option linter.unusedVariables false
set_option linter.unusedSimpArgs false
attribute [local irreducible] Code.wp wpList bodyPost wpQuiet Exit.then Exit.inBlock Post wpAnyH wpOp
theorem Values_ok (v : Value) (w : World) (hv : v.oneCell' = true) : Calls Tryz.prog 134 #[v] w (Post w No fun r L' => ∃ b, r = .func (.func 152) #[] #[.pointer (some ⟨b, 0, none⟩)] ∧ L' = [boxHP b 28 [v]]) := by
  refine enter0 (vs := [_]) Tryz.func134 rfl Tryz.ntmps134 rfl ?_
  repeat' first
    | refine k_then ?_ | refine c_seq ?_ | refine c_region ?_ | refine s_nil ?_ | refine s_assign (by exact rfl) (by exact rfl) ?_ | refine o_box (by exact rfl) (by exact rfl) (fun b => ?_) | fail
  refine o_mkf [] [.pointer (some ⟨b, 0, none⟩)] (by exact rfl) (by exact rfl) (by exact rfl) ?_
  repeat' first
    | refine k_then ?_ | refine s_nil ?_ | refine s_assign (by exact rfl) (by exact rfl) ?_ | refine c_ret ?_ | fail
  rw [one_cells hv]
  refine ret1 [0] rfl rfl rfl ⟨b, rfl, rfl⟩
end Go.Proofs.YtpajjnkmaebhcabGreat
end
section
set_option linter.unusedVariables false
namespace Fil
theorem sortN_asc {l : List Nat} (h : l.Nodup) : Asc (sortN l) := by
  have h1 := sortN_sorted l
  have h2 : (sortN l).Pairwise fun a b => a ≠ b := (sortN_perm l).nodup_iff.2 h
  exact (h1.and h2).imp fun h => by omega
theorem Asc.nodup {l : List Nat} (h : Asc l) : l.Nodup := h.imp fun h => by omega
/-- a vertex among its neighbours -/
def allV (nr : List Nat) (v : Nat) : List Nat := nr.take (posL nr v) ++ [v] ++ nr.drop (posL nr v)
theorem mem_allV {nr : List Nat} {v u : Nat} : u ∈ allV nr v ↔ u ∈ nr ∨ u = v := mem_putL
/-- a choice, and v too -/
def S1 (v : Nat) (C : Nat → Bool) (u : Nat) : Bool := C u || decide (u = v)
def mineT (v : Nat) (tabs : List Tab) : List Tab := tabs.filter fun t => decide (v ∈ t.1)
def restT (v : Nat) (tabs : List Tab) : List Tab := tabs.filter fun t => !decide (v ∈ t.1)
def okV (G : List (List Nat)) (v : Nat) (nr : List Nat) (C : Nat → Bool) : Bool := decide (∀ u ∈ nr, C u = true → u ∉ G.getD v [])
def inV (G : List (List Nat)) (v : Nat) (nr : List Nat) (tabs : List Tab) (C : Nat → Bool) : Bool := okV G v nr C && decide (sumT (mineT v tabs) C < sumT (mineT v tabs) (S1 v C) + 1)
def newV (G : List (List Nat)) (v : Nat) (nr : List Nat) (tabs : List Tab) (C : Nat → Bool) : Nat := if inV G v nr tabs C then sumT (mineT v tabs) (S1 v C) + 1 else sumT (mineT v tabs) C
def resC (nr : List Nat) (C : Nat → Bool) (u : Nat) : Bool := decide (u ∈ nr) && C u
def newT (G : List (List Nat)) (v : Nat) (nr : List Nat) (tabs : List Tab) : Tab := (nr, fun C => newV G v nr tabs (resC nr C))
theorem newT_ok (G : List (List Nat)) (v : Nat) (nr : List Nat) (tabs : List Tab) : TabOK (newT G v nr tabs) := fun C C' h => by
  show newV G v nr tabs (resC nr C) = newV G v nr tabs (resC nr C')
  have : resC nr C = resC nr C' := by
    funext u
    by_cases hu : u ∈ nr
    · simp [resC, h u hu]
    · simp [resC, hu]
  rw [this]
theorem sumT_split (v : Nat) (l : List Tab) (C : Nat → Bool) : sumT l C = sumT (restT v l) C + sumT (mineT v l) C := by
  induction l with
  | nil => simp [sumT, restT, mineT]
  | cons t l ih =>
    simp only [restT, mineT, sumT, List.filter_cons, List.map_cons, List.sum_cons] at ih ⊢
    by_cases h : v ∈ t.1
    · simp only [h, decide_true, Bool.not_true, if_true, List.map_cons, List.sum_cons, Bool.false_eq_true, if_false]; omega
    · simp only [h, decide_false, Bool.not_false, if_true, List.map_cons, List.sum_cons, Bool.false_eq_true, if_false]; omega
end Fil
end
section
set_option linter.unusedVariables false
namespace Go.Sl
open Go Go.RowKit
section
variable {P : Program} {w0 : World} {S0 : FS} {n : Nat} {F : List (Nat × Value)} {L Lk : List HP} {ops : Array Oper} {Q : Exit → Act → World → Prop} {plan : List PI}
theorem RP.weaken {G : List (Nat × Value)} {M : List HP} (is : List Nat) (hL : pick L is = some M) (hF : covers F G) (h : RP P w0 S0 n ops Q Lk plan G M) : RP P w0 S0 n ops Q Lk plan F L := Reach.weaken is hL hF h
/-- orders that come to one state -/
theorem p_join {X : Type} (rest : List PI) (FX : X → List (Nat × Value)) (LX : X → List HP) (h : (∀ x, RP P w0 S0 n ops Q Lk rest (FX x) (LX x)) → RP P w0 S0 n ops Q Lk plan F L) (hk : ∀ x, RP P w0 S0 n ops Q Lk rest (FX x) (LX x)) : RP P w0 S0 n ops Q Lk plan F L := h hk
/-- ways that come to one state -/
theorem c_join {X : Type} {c : Code} {K : Act → World → Prop} (FX : X → List (Nat × Value)) (LX : X → List HP) (h : ∀ K : Act → World → Prop, (∀ x, Reach w0 S0 n (FX x) (LX x) K) → Reach w0 S0 n F L (c.wp P (Exit.then K Q))) (hk : ∀ x, Reach w0 S0 n (FX x) (LX x) K) : Reach w0 S0 n F L (c.wp P (Exit.then K Q)) := h K hk
theorem j_end {X : Type} {K : Act → World → Prop} {FX : X → List (Nat × Value)} {LX : X → List HP} (hk : ∀ x, Reach w0 S0 n (FX x) (LX x) K) (x : X) (is : List Nat) (hL : pick L is = some (LX x)) (hF : covers F (FX x)) : Reach w0 S0 n F L K := Reach.weaken is hL hF (hk x)
theorem pj_end {X : Type} {FX : X → List (Nat × Value)} {LX : X → List HP} (hk : ∀ x, RP P w0 S0 n ops Q Lk plan (FX x) (LX x)) (x : X) (is : List Nat) (hL : pick L is = some (LX x)) (hF : covers F (FX x)) : RP P w0 S0 n ops Q Lk plan F L := Reach.weaken is hL hF (hk x)
/-- what is appended is read: of an entry, or of what was lent -/
theorem p_append_rd {i d : Nat} {rest : List PI} {ty : TypeId} {ps : String} {af : Array Edge} {x y : Operand} {t e : TypeId} {z s u : Value} {sz bytes m c j : Nat} {ys news : List Value} [T : SlTy P t e z sz bytes] (hrd : ∀ w, St w0 S0 L w → RdV w u news) (ho : ops[i]? = some ⟨some d, .call { callee := .builtin .append, args := #[x, y], argTypes := #[t, t] }, ty, ps, af, none⟩) (hn : Nat.blt d n = true) (hx : ev F x = some s) (hA : L[j]? = some (rowHP s e sz m ys)) (hy : ev F y = some u) (hu : Shp u c) (hl : news.length = c * sz) (h1 : ∀ u ∈ news, u.oneCell' = true) (hb : (m + c) * bytes ≤ 140737488355328) (hL : ∀ w v, St w0 S0 (L.set j (rowHP v e sz (m + c) (ys ++ news))) w → St w0 S0 Lk w)
    (h : ∀ v, Shp v (m + c) → RP P w0 S0 n ops Q Lk rest ((d, v) :: F) (L.set j (rowHP v e sz (m + c) (ys ++ news)))) : RP P w0 S0 n ops Q Lk (.mk i false :: rest) F L :=
  p_l ho rfl fun R hR => l_append_of hrd rfl rfl hn hx hy hA hu hl h1 hb (fun v hv => hR _ _ (fun w => hL w v) (h v hv))
theorem rd_cut {v : Value} {e : TypeId} {sz m a b : Nat} {ys : List Value} (hL : rowHP v e sz m ys ∈ L) (ha : a ≤ b) (hb : b ≤ m) : ∀ w, St w0 S0 L w → RdV w (cutV v sz a b) ((ys.drop (a * sz)).take ((b - a) * sz)) := fun w h =>
  (h.mem hL).elim fun _ hs => (rowHP_rd hs).cut (rowHP_shp hs) ha hb
end
end Go.Sl
end
section
namespace Go.Sl
open Go Go.RowKit Fil
def restV (v : Nat) (tv : List (Value × Value)) (tabs : List Tab) : List (Value × Value) := ((tv.zip tabs).filter fun p => !decide (v ∈ p.2.1)).map Prod.fst
theorem zip_filter {α β : Type} (p : β → Bool) : ∀ (tv : List α) (tabs : List β), tv.length = tabs.length → ((tv.zip tabs).filter fun q => p q.2).map Prod.snd = tabs.filter p
  | [], [], _ => rfl
  | a :: tv, t :: tabs, h => by
    have ih := zip_filter p tv tabs (by simpa using h)
    simp only [List.zip_cons_cons, List.filter_cons]
    split
    · rw [List.map_cons, ih]
    · exact ih
theorem restV_length {v : Nat} {tv : List (Value × Value)} {tabs : List Tab} (h : tv.length = tabs.length) : (restV v tv tabs).length = (restT v tabs).length := by
  have := congrArg List.length (zip_filter (fun t : Tab => !decide (v ∈ t.1)) tv tabs h)
  simpa [restV, restT] using this
end Go.Sl
namespace Go.Proofs.YtpajjnkmaebhcabGreat
open Go.RowKit Go.Sl Fil
set_option maxRecDepth 100000
set_option maxHeartbeats 8000000
set_option linter.unusedVariables false
set_option linter.unusedSimpArgs false
attribute [local irreducible] Code.wp wpList bodyPost wpQuiet Exit.then Exit.inBlock Post wpAnyH wpOp
end Go.Proofs.YtpajjnkmaebhcabGreat
end
section
set_option linter.unusedVariables false
namespace Fil
/-- how many of some can be in, none of them next to another one, nor to one of a choice -/
def val (nb : Nat → List Nat) : List Nat → (Nat → Bool) → Nat
  | [], _ => 0
  | v :: E, C => if (nb v).all (fun u => !C u) then max (val nb E C) (val nb E (S1 v C) + 1) else val nb E C
structure Ind (nb : Nat → List Nat) (Y : List Nat) (C : Nat → Bool) : Prop where
  nd : Y.Nodup
  no : ∀ u ∈ Y, ∀ v ∈ Y, u ∉ nb v
  out : ∀ u ∈ Y, ∀ w ∈ nb u, C w = false
/-- is a vertex in, with a choice of those behind it? -/
def inB (nb : Nat → List Nat) (v : Nat) (E : List Nat) (C : Nat → Bool) : Bool := (nb v).all (fun u => !C u) && decide (val nb E C < val nb E (S1 v C) + 1)
/-- what is known as a vertex is eliminated -/
structure StepOK (N : Nat) (near : List (List Nat)) (nb : Nat → List Nat) (v : Nat) (nr : List Nat) (tabs : List Tab) (E : List Nat) : Prop where
  asc : Asc nr
  vn : v ∉ nr
  lt : v < N
  small : nr.length ≤ N
  nrlt : ∀ u ∈ nr, u < N ∧ u ∉ E
  tok : ∀ t ∈ tabs, TabOK t ∧ (v ∈ t.1 → ∀ u ∈ t.1, u ∈ allV nr v) ∧ t.1.length ≤ N
  sum : ∀ C, sumT tabs C ≤ E.length
  few : tabs.length ≤ E.length
  new : v ∉ E
  inn : ∀ C, (∀ e ∈ E, C e = false) → C v = false → inV near v nr tabs (resC nr C) = inB nb v E C
def GoodT (N : Nat) (near : List (List Nat)) (nb : Nat → List Nat) : List Tab → List Nat → List (Nat × List Nat) → Prop
  | _, _, [] => True
  | tabs, E, p :: l => StepOK N near nb p.1 p.2 tabs E ∧ GoodT N near nb (restT p.1 tabs ++ [newT near p.1 p.2 tabs]) (p.1 :: E) l
def tabsT (near : List (List Nat)) (tabs : List Tab) (l : List (Nat × List Nat)) : List Tab := l.foldl (fun tabs p => restT p.1 tabs ++ [newT near p.1 p.2 tabs]) tabs
theorem GoodT.at {N : Nat} {near : List (List Nat)} {nb : Nat → List Nat} {p : Nat × List Nat} : ∀ {l l2 : List (Nat × List Nat)} {tabs : List Tab} {E : List Nat}, GoodT N near nb tabs E (l ++ p :: l2) → StepOK N near nb p.1 p.2 (tabsT near tabs l) ((l.map Prod.fst).reverse ++ E)
  | [], l2, tabs, E, h => h.1
  | q :: l, l2, tabs, E, h => by
    have := GoodT.at (l := l) (l2 := l2) h.2
    simpa [tabsT] using this
/-- what holds as vertices are eliminated -/
structure EI (N : Nat) (near : List (List Nat)) (nb : Nat → List Nat) (keep : Nat → Bool) (A : Nat → Option (List Nat)) (tabs : List Tab) (E : List Nat) : Prop where
  wf : WF N A
  nbA : ∀ a m, A a = some m → ∀ u ∈ nb a, A u ≠ none → u ∈ m
  iso : ∀ a m, keep a = false → A a = some m → m = []
  gone : ∀ e ∈ E, e < N ∧ A e = none
  left : ∀ a, a < N → A a = none → a ∈ E ∨ keep a = false
  nd : E.Nodup
  tok : ∀ t ∈ tabs, TabOK t ∧ t.1.length ≤ N
  clq : ∀ t ∈ tabs, ∀ a ∈ t.1, ∃ m, A a = some m ∧ ∀ b ∈ t.1, b ≠ a → b ∈ m
  sum : ∀ C, (∀ e ∈ E, C e = false) → sumT tabs C = val nb E C
  le : ∀ C, sumT tabs C ≤ E.length
  few : tabs.length ≤ E.length
  tk : ∀ t ∈ tabs, ∀ a ∈ t.1, keep a = true
theorem sumT_append (l m : List Tab) (C : Nat → Bool) : sumT (l ++ m) C = sumT l C + sumT m C := by simp [sumT]
theorem sumT_congr {l : List Tab} {C C' : Nat → Bool} (h : ∀ t ∈ l, t.2 C = t.2 C') : sumT l C = sumT l C' := by
  rw [sumT, sumT, List.map_congr_left h]
section
variable {N : Nat} {near : List (List Nat)} {nb : Nat → List Nat} {keep : Nat → Bool} {A : Nat → Option (List Nat)} {tabs : List Tab} {E : List Nat} {v : Nat} {l : List Nat}
theorem elimF_some (h : WF N A) (hA : A v = some l) {a : Nat} {m : List Nat} : elimF A v a = some m ↔ a ≠ v ∧ ∃ m0, A a = some m0 ∧ m = if a ∈ l then addL (m0.filter fun x => x ≠ v) a (sortN l) else m0.filter fun x => x ≠ v := by
  rw [elimF, hA, Option.getD_some, joinF_some]
  constructor
  · rintro ⟨m1, h1, rfl⟩
    obtain ⟨h2, m0, h3, rfl⟩ := (takeF_some h hA).1 h1
    refine ⟨h2, m0, h3, ?_⟩
    simp only [(sortN_perm l).mem_iff]
  · rintro ⟨h2, m0, h3, rfl⟩
    refine ⟨_, (takeF_some h hA).2 ⟨h2, m0, h3, rfl⟩, ?_⟩
    simp only [(sortN_perm l).mem_iff]
theorem elimF_none (h : WF N A) (hA : A v = some l) {a : Nat} : elimF A v a = none ↔ a = v ∨ A a = none := by
  rw [elimF, hA, Option.getD_some, joinF_none, takeF_none (N := N)]
theorem elimF_keeps (h : WF N A) (hA : A v = some l) {a b : Nat} {m : List Nat} (ha : A a = some m) (hne : a ≠ v) (hb : b ∈ m) (hbv : b ≠ v) : ∃ m', elimF A v a = some m' ∧ b ∈ m' := by
  refine ⟨_, (elimF_some h hA).2 ⟨hne, m, ha, rfl⟩, ?_⟩
  have : b ∈ m.filter fun x => x ≠ v := List.mem_filter.2 ⟨hb, by simpa using hbv⟩
  split
  · exact mem_addL.2 (.inl this)
  · exact this
theorem EI.skip (h : EI N near nb keep A tabs E) (hA : A v = some l) (hk : keep v = false) : EI N near nb keep (elimF A v) tabs E := by
  have hl := h.iso v l hk hA
  subst hl
  have hs : ∀ a m, elimF A v a = some m ↔ a ≠ v ∧ ∃ m0, A a = some m0 ∧ m = m0.filter fun x => x ≠ v := fun a m => by
    rw [elimF_some h.wf hA]; simp
  refine ⟨h.wf.elim hA, ?_, ?_, ?_, ?_, h.nd, h.tok, ?_, h.sum, h.le, h.few, h.tk⟩
  · intro a m hm u hu hun
    obtain ⟨h1, m0, h2, rfl⟩ := (hs a m).1 hm
    have hun' : ¬ (u = v ∨ A u = none) := fun hh => hun ((elimF_none h.wf hA).2 hh)
    refine List.mem_filter.2 ⟨h.nbA a m0 h2 u hu (fun e => hun' (.inr e)), ?_⟩
    simpa using fun e => hun' (.inl e)
  · intro a m hka hm
    obtain ⟨h1, m0, h2, rfl⟩ := (hs a m).1 hm
    rw [h.iso a m0 hka h2]; rfl
  · intro e he
    exact ⟨(h.gone e he).1, (elimF_none h.wf hA).2 (.inr (h.gone e he).2)⟩
  · intro a haN ha
    rcases (elimF_none h.wf hA).1 ha with rfl | ha
    · exact .inr hk
    · exact h.left a haN ha
  · intro t ht a ha
    obtain ⟨m, h1, h2⟩ := h.clq t ht a ha
    have hav : a ≠ v := fun e => by
      have := h.tk t ht a ha
      rw [e, hk] at this; simp at this
    refine ⟨_, (hs a _).2 ⟨hav, m, h1, rfl⟩, fun b hb hne => List.mem_filter.2 ⟨h2 b hb hne, ?_⟩⟩
    have hbv : b ≠ v := fun e => by
      have := h.tk t ht b hb
      rw [e, hk] at this; simp at this
    simpa using hbv
theorem EI.facts (h : EI N near nb keep A tabs E) (hA : A v = some l) : v ∉ E ∧ Asc (sortN l) ∧ v ∉ sortN l ∧ (sortN l).length = l.length := by
  refine ⟨fun hv => ?_, sortN_asc (h.wf.nd v l hA), fun hv => h.wf.ne v l hA v ((sortN_perm l).mem_iff.1 hv) rfl, (sortN_perm l).length_eq⟩
  have := (h.gone v hv).2
  rw [hA] at this; simp at this
theorem EI.mine (h : EI N near nb keep A tabs E) (hA : A v = some l) {t : Tab} (ht : t ∈ tabs) (hv : v ∈ t.1) : ∀ u ∈ t.1, u ∈ allV (sortN l) v := by
  intro u hu
  rw [mem_allV, (sortN_perm l).mem_iff]
  by_cases e : u = v
  · exact .inr e
  · obtain ⟨m, h1, h2⟩ := h.clq t ht v hv
    obtain rfl : l = m := by simpa [hA] using h1
    exact .inl (h2 u hu e)
theorem EI.mineC (h : EI N near nb keep A tabs E) (hA : A v = some l) {C C' : Nat → Bool} (hC : ∀ u ∈ sortN l, C u = C' u) (hv : C v = C' v) : sumT (mineT v tabs) C = sumT (mineT v tabs) C' := by
  refine sumT_congr fun t ht => ?_
  obtain ⟨h1, h2⟩ := List.mem_filter.1 ht
  refine (h.tok t h1).1 _ _ fun u hu => ?_
  rcases mem_allV.1 (h.mine hA h1 (by simpa using h2) u hu) with h3 | rfl
  · exact hC u h3
  · exact hv
theorem EI.restC (h : EI N near nb keep A tabs E) {C C' : Nat → Bool} (hC : ∀ u, u ≠ v → C u = C' u) : sumT (restT v tabs) C = sumT (restT v tabs) C' := by
  refine sumT_congr fun t ht => ?_
  obtain ⟨h1, h2⟩ := List.mem_filter.1 ht
  refine (h.tok t h1).1 _ _ fun u hu => hC u fun e => ?_
  subst e
  simp [hu] at h2
theorem EI.inn (h : EI N near nb keep A tabs E) (hA : A v = some l) (hnear : near.getD v [] = nb v) (hnk : ∀ u ∈ nb v, keep u = true ∧ u < N) (C : Nat → Bool) (hC : ∀ e ∈ E, C e = false) (hCv : C v = false) :
    okV near v (sortN l) (resC (sortN l) C) = (nb v).all (fun u => !C u) ∧ sumT (restT v tabs) C + sumT (mineT v tabs) (resC (sortN l) C) = val nb E C ∧ sumT (restT v tabs) C + sumT (mineT v tabs) (S1 v (resC (sortN l) C)) = val nb E (S1 v C) := by
  obtain ⟨hvE, hasc, hvn, hlen⟩ := h.facts hA
  have e1 : sumT (mineT v tabs) (resC (sortN l) C) = sumT (mineT v tabs) C := h.mineC hA (fun u hu => by simp [resC, hu]) (by simp [resC, hvn, hCv])
  have e2 : sumT (mineT v tabs) (S1 v (resC (sortN l) C)) = sumT (mineT v tabs) (S1 v C) := h.mineC hA (fun u hu => by simp [S1, resC, hu]) (by simp [S1])
  have e3 : sumT (restT v tabs) C = sumT (restT v tabs) (S1 v C) := h.restC fun u hu => by simp [S1, hu]
  refine ⟨?_, ?_, ?_⟩
  · rw [okV, hnear, Bool.eq_iff_iff, decide_eq_true_eq, List.all_eq_true]
    constructor
    · intro hok u hu
      cases hCu : C u with
      | false => rfl
      | true =>
        exfalso
        have hun : A u ≠ none := fun hn => by
          rcases h.left u (hnk u hu).2 hn with h1 | h1
          · rw [hC u h1] at hCu; simp at hCu
          · rw [(hnk u hu).1] at h1; simp at h1
        have hul : u ∈ sortN l := (sortN_perm l).mem_iff.2 (h.nbA v l hA u hu hun)
        exact hok u hul (by simp [resC, hul, hCu]) hu
    · intro hall u hu hcu hm
      have := hall u hm
      simp only [resC, hu, decide_true, Bool.true_and] at hcu
      rw [hcu] at this; simp at this
  · rw [e1, ← sumT_split, h.sum C hC]
  · rw [e2, e3, ← sumT_split]
    refine h.sum _ fun e he => ?_
    have : e ≠ v := fun x => hvE (x ▸ he)
    simp [S1, hC e he, this]
theorem EI.stepOK (h : EI N near nb keep A tabs E) (hA : A v = some l) (hnear : near.getD v [] = nb v) (hnk : ∀ u ∈ nb v, keep u = true ∧ u < N) : StepOK N near nb v (sortN l) tabs E := by
  obtain ⟨hvE, hasc, hvn, hlen⟩ := h.facts hA
  refine ⟨hasc, hvn, h.wf.lt hA, by rw [hlen]; exact h.wf.len hA, ?_, fun t ht => ⟨(h.tok t ht).1, h.mine hA ht, (h.tok t ht).2⟩, h.le, h.few, hvE, ?_⟩
  · intro u hu
    obtain ⟨h1, h2, m, h3⟩ := h.wf.all hA u ((sortN_perm l).mem_iff.1 hu)
    exact ⟨h1, fun he => by have := (h.gone u he).2; rw [h3] at this; simp at this⟩
  · intro C hC hCv
    obtain ⟨h1, h2, h3⟩ := h.inn hA hnear hnk C hC hCv
    rw [inV, h1, inB]
    congr 1
    rw [decide_eq_decide]
    omega
theorem EI.step (h : EI N near nb keep A tabs E) (hA : A v = some l) (hk : keep v = true) (hnear : near.getD v [] = nb v) (hnk : ∀ u ∈ nb v, keep u = true ∧ u < N) : EI N near nb keep (elimF A v) (restT v tabs ++ [newT near v (sortN l) tabs]) (v :: E) := by
  obtain ⟨hvE, hasc, hvn, hlen⟩ := h.facts hA
  have hlk : ∀ u ∈ l, keep u = true := fun u hu => by
    obtain ⟨m, h1, h2⟩ := h.wf.sym v l hA u hu
    cases hku : keep u with
    | true => rfl
    | false => rw [h.iso u m hku h1] at h2; simp at h2
  refine ⟨h.wf.elim hA, ?_, ?_, ?_, ?_, List.nodup_cons.2 ⟨hvE, h.nd⟩, ?_, ?_, ?_, ?_, ?_, ?_⟩
  · intro a m hm u hu hun
    obtain ⟨h1, m0, h2, e⟩ := (elimF_some h.wf hA).1 hm
    have hun' : ¬ (u = v ∨ A u = none) := fun hh => hun ((elimF_none h.wf hA).2 hh)
    obtain ⟨m', h3, h4⟩ := elimF_keeps h.wf hA h2 h1 (h.nbA a m0 h2 u hu (fun e => hun' (.inr e))) (fun e => hun' (.inl e))
    rw [hm] at h3
    obtain rfl : m = m' := by simpa using h3
    exact h4
  · intro a m hka hm
    obtain ⟨h1, m0, h2, rfl⟩ := (elimF_some h.wf hA).1 hm
    have hal : a ∉ l := fun hal => by rw [hlk a hal] at hka; simp at hka
    rw [if_neg hal, h.iso a m0 hka h2]; rfl
  · intro e he
    rcases List.mem_cons.1 he with rfl | he
    · exact ⟨h.wf.lt hA, (elimF_none h.wf hA).2 (.inl rfl)⟩
    · exact ⟨(h.gone e he).1, (elimF_none h.wf hA).2 (.inr (h.gone e he).2)⟩
  · intro a haN ha
    rcases (elimF_none h.wf hA).1 ha with rfl | ha
    · exact .inl (.head _)
    · exact (h.left a haN ha).imp (.tail _) id
  · intro t ht
    rcases List.mem_append.1 ht with ht | ht
    · exact h.tok t (List.mem_filter.1 ht).1
    · obtain rfl : t = _ := by simpa using ht
      exact ⟨newT_ok _ _ _ _, by show (sortN l).length ≤ N; rw [hlen]; exact h.wf.len hA⟩
  · intro t ht a ha
    rcases List.mem_append.1 ht with ht | ht
    · obtain ⟨h1, h2⟩ := List.mem_filter.1 ht
      have hvt : v ∉ t.1 := by simpa using h2
      have hav : a ≠ v := fun e => hvt (e ▸ ha)
      obtain ⟨m, h3, h4⟩ := h.clq t h1 a ha
      refine ⟨_, (elimF_some h.wf hA).2 ⟨hav, m, h3, rfl⟩, fun b hb hne => ?_⟩
      have : b ∈ m.filter fun x => x ≠ v := List.mem_filter.2 ⟨h4 b hb hne, by simpa using fun e : b = v => hvt (e ▸ hb)⟩
      split
      · exact mem_addL.2 (.inl this)
      · exact this
    · obtain rfl : t = _ := by simpa using ht
      have ha : a ∈ sortN l := ha
      have hal := (sortN_perm l).mem_iff.1 ha
      obtain ⟨_, hav, m, h3⟩ := h.wf.all hA a hal
      refine ⟨_, (elimF_some h.wf hA).2 ⟨hav, m, h3, rfl⟩, fun b hb hne => ?_⟩
      rw [if_pos hal]
      exact mem_addL.2 (.inr ⟨hb, hne⟩)
  · intro C hC
    obtain ⟨h1, h2, h3⟩ := h.inn hA hnear hnk C (fun e he => hC e (.tail _ he)) (hC v (.head _))
    rw [sumT_append, val]
    have hn : sumT [newT near v (sortN l) tabs] C = newV near v (sortN l) tabs (resC (sortN l) C) := by simp [sumT, newT]
    rw [hn, newV, inV, h1]
    cases hall : (nb v).all fun u => !C u
    · rw [Bool.false_and, if_neg (by simp), if_neg (by simp)]; exact h2
    · rw [Bool.true_and, if_pos rfl]
      by_cases hlt : sumT (mineT v tabs) (resC (sortN l) C) < sumT (mineT v tabs) (S1 v (resC (sortN l) C)) + 1
      · rw [decide_eq_true hlt, if_pos rfl]; omega
      · rw [decide_eq_false hlt, if_neg (by simp)]; omega
  · intro C
    rw [sumT_append, List.length_cons]
    have hn : sumT [newT near v (sortN l) tabs] C = newV near v (sortN l) tabs (resC (sortN l) C) := by simp [sumT, newT]
    rw [hn, newV]
    have e1 : sumT (mineT v tabs) (resC (sortN l) C) = sumT (mineT v tabs) (fun u => C u && decide (u ≠ v)) := h.mineC hA (fun u hu => by
      have : u ≠ v := fun e => hvn (e ▸ hu)
      simp [resC, hu, this]) (by simp [resC, hvn])
    have e2 : sumT (mineT v tabs) (S1 v (resC (sortN l) C)) = sumT (mineT v tabs) (S1 v C) := h.mineC hA (fun u hu => by simp [S1, resC, hu]) (by simp [S1])
    have e3 : sumT (restT v tabs) C = sumT (restT v tabs) (S1 v C) := h.restC fun u hu => by simp [S1, hu]
    have e4 : sumT (restT v tabs) C = sumT (restT v tabs) (fun u => C u && decide (u ≠ v)) := h.restC fun u hu => by simp [hu]
    have l1 := h.le (S1 v C)
    have l2 := h.le (fun u => C u && decide (u ≠ v))
    rw [sumT_split v] at l1 l2
    split <;> omega
  · have h1 := List.length_filter_le (fun t : Tab => !decide (v ∈ t.1)) tabs
    have h2 := h.few
    rw [restT, List.length_append, List.length_singleton, List.length_cons]
    omega
  · intro t ht a ha
    rcases List.mem_append.1 ht with ht | ht
    · exact h.tk t (List.mem_filter.1 ht).1 a ha
    · obtain rfl : t = _ := by simpa using ht
      have ha : a ∈ sortN l := ha
      exact hlk a ((sortN_perm l).mem_iff.1 ha)
theorem EI.run (hnear : ∀ v, v < N → near.getD v [] = nb v) (hnk : ∀ v, v < N → ∀ u ∈ nb v, keep u = true ∧ u < N) : ∀ (k : Nat) (A : Nat → Option (List Nat)) (tabs : List Tab) (E : List Nat), EI N near nb keep A tabs E → GoodT N near nb tabs E ((runS N k A).filter fun p => keep p.1)
  | 0, A, tabs, E, h => trivial
  | k + 1, A, tabs, E, h => by
    cases hf : fewI A N with
    | none => simp [runS, hf, GoodT]
    | some v =>
      obtain ⟨hvN, l, hA⟩ := fewI_some hf
      simp only [runS, hf, hA, Option.getD_some]
      cases hk : keep v with
      | true =>
        rw [List.filter_cons_of_pos (by simpa using hk)]
        exact ⟨h.stepOK hA (hnear v hvN) (hnk v hvN), EI.run hnear hnk k _ _ _ (h.step hA hk (hnear v hvN) (hnk v hvN))⟩
      | false =>
        rw [List.filter_cons_of_neg (by simp [hk])]
        exact EI.run hnear hnk k _ _ _ (h.skip hA hk)
end
end Fil
end
section
set_option linter.unusedVariables false
namespace Go.Sl
open Go Go.RowKit Fil
section
variable {P : Program} {w0 : World} {S0 : FS} {n : Nat} {F : List (Nat × Value)} {L Lr Ks K : List HP} {v : Value} {R : Act → World → Prop}
theorem sats_kid {w : World} {A : HP} {S : FS} (h : sats L S w) (hL : starHP Ks ∈ L) (hK : A ∈ Ks) : A.sat S w := sats_mem (sats_mem h hL) hK
theorem sats_kid2 {w : World} {A : HP} {S : FS} (h : sats L S w) (hL : starHP Ks ∈ L) (hK : starHP K ∈ Ks) (hA : A ∈ K) : A.sat S w := sats_mem (sats_kid h hL hK) hA
theorem St.kid2 {w : World} {A : HP} (h : St w0 S0 L w) (hL : starHP Ks ∈ L) (hK : starHP K ∈ Ks) (hA : A ∈ K) : ∃ S, A.sat S w := by
  obtain ⟨S, _, hl⟩ := h
  exact ⟨S, sats_kid2 hl hL hK hA⟩
theorem ro_kid2 {w : World} {e : TypeId} {sz m : Nat} {ys : List Value} (h : St w0 S0 L w) (hL : starHP Ks ∈ L) (hK : starHP K ∈ Ks) (hA : rowHP v e sz m ys ∈ K) : RO w No v ys := by
  obtain ⟨S, hsat⟩ := h.kid2 hL hK hA
  exact RO.of_rd (rowHP_rd hsat)
theorem Lent.ro_kid2 {w : World} {S : FS} {L0 : List HP} {e : TypeId} {sz m : Nat} {ys : List Value} (h : Lent w0 S0 L0 Lr S w) (hL : starHP Ks ∈ Lr) (hK : starHP K ∈ Ks) (hA : rowHP v e sz m ys ∈ K) : RO w S v ys := by
  intro w' S' hm
  obtain ⟨Sr, hr, hd⟩ := h.rest
  have := HP.keep (sats_mem hr hL) hd hm
  exact rowHP_rd (sats_mem (sats_mem this hK) hA)
theorem Lent.shp {w : World} {S : FS} {L0 : List HP} {e : TypeId} {sz m : Nat} {ys : List Value} (h : Lent w0 S0 L0 Lr S w) (hL : rowHP v e sz m ys ∈ Lr) : Shp v m := by
  obtain ⟨Sr, hr, hd⟩ := h.rest
  exact rowHP_shp (sats_mem hr hL)
theorem Lent.shp_kid {w : World} {S : FS} {L0 : List HP} {e : TypeId} {sz m : Nat} {ys : List Value} (h : Lent w0 S0 L0 Lr S w) (hL : starHP Ks ∈ Lr) (hK : rowHP v e sz m ys ∈ Ks) : Shp v m := by
  obtain ⟨Sr, hr, hd⟩ := h.rest
  exact rowHP_shp (sats_kid hr hL hK)
theorem Lent.shp_kid2 {w : World} {S : FS} {L0 : List HP} {e : TypeId} {sz m : Nat} {ys : List Value} (h : Lent w0 S0 L0 Lr S w) (hL : starHP Ks ∈ Lr) (hK : starHP K ∈ Ks) (hA : rowHP v e sz m ys ∈ K) : Shp v m := by
  obtain ⟨Sr, hr, hd⟩ := h.rest
  exact rowHP_shp (sats_kid2 hr hL hK hA)
theorem Lent.rb_own {w : World} {S : FS} {L0 : List HP} {b : Nat} {t : TypeId} {cs : List Value} (h : Lent w0 S0 L0 Lr S w) (hL : boxHP b t cs ∈ Lr) : RB w S b t cs := by
  intro w' S' hm
  obtain ⟨Sr, hr, hd⟩ := h.rest
  exact (HP.keep (sats_mem hr hL) hd hm).2
end
end Go.Sl
namespace Fil
end Fil
namespace Go.Proofs.YtpajjnkmaebhcabGreat
open Go Go.RowKit Go.Sl Fil
def poolK (x : Value × Nat × Value) (d : List Nat × List Bool) : HP := starHP [rowHP x.1 3 1 d.1.length (nV d.1), boxHP x.2.1 57 [x.2.2], rowHP x.2.2 4 1 d.2.length (bV d.2)]
structure TInv (ho : List Value) (T : List (Nat × List Nat)) (pool : List (Value × Nat × Value)) (ds : List (List Nat × List Bool)) (tv : List (Value × Value)) (tabs : List Tab) : Prop where
  len : tv.length = tabs.length
  at' : ∀ (k : Nat) h t, tv[k]? = some h → tabs[k]? = some t → (∃ q : Nat, ho[q]? = some h.1 ∧ (T.map Prod.snd)[q]? = some t.1) ∧ ∃ (j : Nat) (x : Value × Nat × Value) (d : List Nat × List Bool), pool[j]? = some x ∧ ds[j]? = some d ∧ x.1 = h.2 ∧ d.1 = bestL t
theorem TInv.ro {w0 w : World} {S0 S : FS} {L0 Lr : List HP} {ho : List Value} {T : List (Nat × List Nat)} {pool : List (Value × Nat × Value)} {ds : List (List Nat × List Bool)} {tv : List (Value × Value)} {tabs : List Tab} (hT : TInv ho T pool ds tv tabs) (h : Lent w0 S0 L0 Lr S w) (h1 : starHP (kids rowN ho (T.map Prod.snd)) ∈ Lr) (h2 : starHP (List.zipWith poolK pool ds) ∈ Lr) : TabRO w S tv tabs := by
  refine ⟨hT.len, fun i a t e1 e2 => ?_⟩
  obtain ⟨⟨q, q1, q2⟩, j, x, d, j1, j2, j3, j4⟩ := hT.at' i a t e1 e2
  have k1 := kids_mem (f := rowN) q1 q2
  have k2 : poolK x d ∈ List.zipWith poolK pool ds := List.mem_of_getElem? (i := j) (by rw [List.getElem?_zipWith, j1, j2])
  have hl : d.1.length = 2 ^ t.1.length := by rw [j4, bestL_length]
  refine ⟨h.shp_kid h1 k1, h.ro_kid h1 k1, ?_, ?_⟩
  · rw [← j3, ← hl]; exact h.shp_kid2 h2 k2 (.head _)
  · rw [← j3, ← j4]; exact h.ro_kid2 h2 k2 (.head _)
theorem TInv.step {ho : List Value} {T : List (Nat × List Nat)} {pool : List (Value × Nat × Value)} {ds : List (List Nat × List Bool)} {tv : List (Value × Value)} {tabs : List Tab} (hT : TInv ho T pool ds tv tabs) {k v : Nat} {nr : List Nat} {hx : Value} (hk : T[k]? = some (v, nr)) (hh : ho[k]? = some hx) (near : List (List Nat)) (x : Value × Nat × Value) (il : List Bool) (hp : pool.length = ds.length) :
    TInv ho T (pool ++ [x]) (ds ++ [(bestL (newT near v nr tabs), il)]) (restV v tv tabs ++ [(hx, x.1)]) (restT v tabs ++ [newT near v nr tabs]) := by
  have hlen := restV_length (v := v) hT.len
  refine ⟨by simp [hlen], fun i a t e1 e2 => ?_⟩
  have hz := zip_filter (fun t : Tab => !decide (v ∈ t.1)) tv tabs hT.len
  by_cases hi : i < (restV v tv tabs).length
  · rw [List.getElem?_append_left hi] at e1
    rw [List.getElem?_append_left (by omega)] at e2
    unfold restT at e2
    rw [← hz] at e2
    unfold restV at e1
    rw [List.getElem?_map, Option.map_eq_some_iff] at e1 e2
    obtain ⟨q1, f1, rfl⟩ := e1
    obtain ⟨q2, f2, rfl⟩ := e2
    rw [f1] at f2
    obtain rfl : q1 = q2 := Option.some.inj f2
    obtain ⟨hm, _⟩ := List.mem_filter.1 (List.mem_of_getElem? f1)
    obtain ⟨c, hc⟩ := List.getElem?_of_mem hm
    rw [List.getElem?_zip_eq_some] at hc
    obtain ⟨g1, j, y, d, j1, j2, j3, j4⟩ := hT.at' c _ _ hc.1 hc.2
    exact ⟨g1, j, y, d, by rw [List.getElem?_append_left (List.getElem?_eq_some_iff.1 j1).1]; exact j1, by rw [List.getElem?_append_left (List.getElem?_eq_some_iff.1 j2).1]; exact j2, j3, j4⟩
  · rw [List.getElem?_append_right (by omega)] at e1
    rw [List.getElem?_append_right (by omega), ← hlen] at e2
    have hi0 : i - (restV v tv tabs).length = 0 := by
      have := (List.getElem?_eq_some_iff.1 e1).1
      simp at this; omega
    rw [hi0] at e1 e2
    obtain rfl : (hx, x.1) = a := by simpa using e1
    obtain rfl : newT near v nr tabs = t := by simpa using e2
    exact ⟨⟨k, hh, by simp [hk, newT]⟩, pool.length, x, (bestL (newT near v nr tabs), il), by simp, by rw [hp]; simp, rfl, rfl⟩
end Go.Proofs.YtpajjnkmaebhcabGreat
end
section
set_option linter.unusedVariables false
set_option linter.unusedSectionVars false
namespace Fil
section
variable {α β : Type}
/-- from s through l to t, step by step by p -/
def st (p : α → α) : List α → α → α → Prop
  | [], s, t => s = t
  | a :: l, s, t => s = a ∧ st p l (p a) t
theorem st_app {p : α → α} : ∀ {a b : List α} {s t : α}, st p (a ++ b) s t ↔ ∃ m, st p a s m ∧ st p b m t
  | [], b, s, t => ⟨fun h => ⟨s, rfl, h⟩, fun ⟨m, h1, h2⟩ => by cases h1; exact h2⟩
  | x :: a, b, s, t => by
    simp only [List.cons_append, st]
    rw [st_app]
    exact ⟨fun ⟨h, m, h1, h2⟩ => ⟨m, ⟨h, h1⟩, h2⟩, fun ⟨m, ⟨h, h1⟩, h2⟩ => ⟨h, m, h1, h2⟩⟩
theorem st_congr {p q : α → α} : ∀ {l : List α} {s t : α}, (∀ a ∈ l, p a = q a) → st p l s t → st q l s t
  | [], s, t, _, h => h
  | a :: l, s, t, h, ⟨h1, h2⟩ => ⟨h1, st_congr (fun b hb => h b (.tail _ hb)) (by rw [← h a (.head _)]; exact h2)⟩
theorem st_map {p : α → α} {q : β → β} {f : α → β} : ∀ {l : List α} {s t : α}, (∀ a ∈ l, q (f a) = f (p a)) → st p l s t → st q (l.map f) (f s) (f t)
  | [], s, t, _, h => congrArg f h
  | a :: l, s, t, h, ⟨h1, h2⟩ => ⟨congrArg f h1, by rw [h a (.head _)]; exact st_map (fun b hb => h b (.tail _ hb)) h2⟩
/-- a cycle -/
def Cy (p : α → α) (l : List α) : Prop := l ≠ [] ∧ ∃ s, st p l s s
theorem Cy.congr {p q : α → α} {l : List α} (h : Cy p l) (hq : ∀ a ∈ l, p a = q a) : Cy q l := ⟨h.1, h.2.imp fun _ => st_congr hq⟩
theorem Cy.cons {p : α → α} {x : α} {l : List α} : Cy p (x :: l) ↔ st p l (p x) x :=
  ⟨fun ⟨_, s, h1, h2⟩ => by subst h1; exact h2, fun h => ⟨by simp, x, rfl, h⟩⟩
theorem Cy.rot {p : α → α} {a b : List α} (h : Cy p (a ++ b)) : Cy p (b ++ a) := by
  obtain ⟨h1, s, h2⟩ := h
  obtain ⟨m, h3, h4⟩ := st_app.1 h2
  exact ⟨by simp_all [and_comm], m, st_app.2 ⟨s, h4, h3⟩⟩
theorem st_in {p : α → α} {S : α → Prop} (hS : ∀ z, S z → S (p z)) : ∀ {l : List α} {s t : α}, st p l s t → S s → (∀ z ∈ l, S z) ∧ S t
  | [], s, t, h, hs => by cases h; exact ⟨by simp, hs⟩
  | a :: l, s, t, ⟨h1, h2⟩, hs => by
    subst h1
    have := st_in hS h2 (hS _ hs)
    exact ⟨fun z hz => (List.mem_cons.1 hz).elim (fun e => e ▸ hs) (this.1 z), this.2⟩
theorem Cy.in {p : α → α} {S : α → Prop} (hS : ∀ z, S z → S (p z)) {l : List α} (h : Cy p l) {a : α} (ha : a ∈ l) (hs : S a) : ∀ z ∈ l, S z := by
  obtain ⟨l1, l2, rfl⟩ := List.append_of_mem ha
  have h2 := h.rot
  rw [List.cons_append, Cy.cons] at h2
  have := (st_in hS h2 (hS _ hs)).1
  intro z hz
  rcases List.mem_append.1 hz with hz | hz
  · exact this z (List.mem_append.2 (.inr hz))
  · rcases List.mem_cons.1 hz with rfl | hz
    · exact hs
    · exact this z (List.mem_append.2 (.inl hz))
theorem Cy.shut {p : α → α} {l : List α} (h : Cy p l) {a : α} (ha : a ∈ l) : p a ∈ l := by
  obtain ⟨l1, l2, rfl⟩ := List.append_of_mem ha
  have h2 := h.rot
  rw [List.cons_append, Cy.cons] at h2
  cases hr : l2 ++ l1 with
  | nil =>
    rw [hr] at h2
    have : p a = a := h2
    rw [this]; exact ha
  | cons b r =>
    rw [hr] at h2
    have : p a = b := h2.1
    have hb : b ∈ l2 ++ l1 := by rw [hr]; exact .head _
    rw [this]
    rcases List.mem_append.1 hb with hb | hb
    · exact List.mem_append.2 (.inr (.tail _ hb))
    · exact List.mem_append.2 (.inl hb)
theorem Cy.sub {p : α → α} {l m : List α} (h : Cy p l) (hm : Cy p m) {a : α} (ha : a ∈ l) (ham : a ∈ m) : ∀ z ∈ l, z ∈ m := h.in (S := (· ∈ m)) (fun z hz => hm.shut hz) ha ham
theorem perm_of_nodup {l m : List α} (hl : l.Nodup) (hm : m.Nodup) (h : ∀ a, a ∈ l ↔ a ∈ m) : l.Perm m := by
  classical
  exact (List.perm_ext_iff_of_nodup hl hm).2 h
theorem sub_length {l m : List α} (hl : l.Nodup) (h : ∀ a ∈ l, a ∈ m) : l.length ≤ m.length := by
  classical
  induction l generalizing m with
  | nil => simp
  | cons a l ih =>
    obtain ⟨m1, m2, rfl⟩ := List.append_of_mem (h a (.head _))
    rw [List.nodup_cons] at hl
    have := ih (m := m1 ++ m2) hl.2 fun b hb => by
      have h1 := h b (.tail _ hb)
      have h2 : b ≠ a := fun e => hl.1 (e ▸ hb)
      simp only [List.mem_append, List.mem_cons, h2, false_or] at h1
      simpa using h1
    simp only [List.length_append, List.length_cons] at this ⊢
    omega
theorem perm_of_sub {l m : List α} (hl : l.Nodup) (h : ∀ a ∈ l, a ∈ m) (hm : m.length ≤ l.length) : l.Perm m := by
  classical
  induction l generalizing m with
  | nil =>
    obtain rfl : m = [] := List.eq_nil_of_length_eq_zero (by simpa using hm)
    exact .refl _
  | cons a l ih =>
    obtain ⟨m1, m2, rfl⟩ := List.append_of_mem (h a (.head _))
    rw [List.nodup_cons] at hl
    have := ih (m := m1 ++ m2) hl.2 (fun b hb => by
      have h1 := h b (.tail _ hb)
      have h2 : b ≠ a := fun e => hl.1 (e ▸ hb)
      simp only [List.mem_append, List.mem_cons, h2, false_or] at h1
      simpa using h1) (by
      simp only [List.length_append, List.length_cons] at hm ⊢
      omega)
    exact (this.cons a).trans List.perm_middle.symm
/-- as many cycles, however they are told -/
theorem cy_count {p : α → α} : ∀ {C1 C2 : List (List α)}, (∀ l ∈ C1, Cy p l) → (∀ l ∈ C2, Cy p l) → C1.flatten.Perm C2.flatten → C1.flatten.Nodup → C1.length = C2.length
  | [], C2, _, h2, hp, _ => by
    cases C2 with
    | nil => rfl
    | cons l C2 =>
      exact absurd (by have := hp.symm.eq_nil; simp at this; exact this.1) (h2 l (.head _)).1
  | l :: C1, C2, h1, h2, hp, hn => by
    have hl := h1 l (.head _)
    obtain ⟨a, ha⟩ := List.exists_mem_of_ne_nil _ hl.1
    have ha2 : a ∈ C2.flatten := hp.mem_iff.1 (by simp [ha])
    obtain ⟨m, hm, ham⟩ := List.mem_flatten.1 ha2
    obtain ⟨x, y, rfl⟩ := List.append_of_mem hm
    have hn2 : (x ++ m :: y).flatten.Nodup := hp.nodup_iff.1 hn
    have hmc := h2 m (by simp)
    have hq : (x ++ m :: y).flatten.Perm (m ++ (x ++ y).flatten) := by
      simp only [List.flatten_append, List.flatten_cons]
      rw [← List.append_assoc, ← List.append_assoc]
      exact List.perm_append_comm.append_right _
    have nm : m.Nodup := (List.nodup_append.1 (hq.nodup_iff.1 hn2)).1
    have nl : l.Nodup := (List.nodup_append.1 (by simpa using hn)).1
    have hlm : l.Perm m := perm_of_nodup nl nm fun z => ⟨hl.sub hmc ha ham z, hmc.sub hl ham ha z⟩
    have hr : C1.flatten.Perm (x ++ y).flatten := by
      have : (l ++ C1.flatten).Perm (l ++ (x ++ y).flatten) := by
        have h3 : (l ++ C1.flatten).Perm (x ++ m :: y).flatten := by simpa using hp
        exact (h3.trans hq).trans (hlm.symm.append_right _)
      exact (List.perm_append_left_iff l).1 this
    have := cy_count (C1 := C1) (C2 := x ++ y) (fun l hl => h1 l (.tail _ hl)) (fun l hl => h2 l (by
      rcases List.mem_append.1 hl with h | h
      · exact List.mem_append.2 (.inl h)
      · exact List.mem_append.2 (.inr (.tail _ h)))) hr (List.nodup_append.1 (by simpa using hn)).2.1
    simp only [List.length_cons, List.length_append] at this ⊢
    omega
/-- all the cycles of a list -/
structure Dec (p : α → α) (ds : List α) (C : List (List α)) : Prop where
  nd : ds.Nodup
  cy : ∀ l ∈ C, Cy p l
  perm : C.flatten.Perm ds
theorem Dec.count {p : α → α} {ds : List α} {C1 C2 : List (List α)} (h1 : Dec p ds C1) (h2 : Dec p ds C2) : C1.length = C2.length :=
  cy_count h1.cy h2.cy (h1.perm.trans h2.perm.symm) (h1.perm.nodup_iff.2 h1.nd)
theorem Dec.order {p : α → α} {ds : List α} {C1 C2 : List (List α)} (h : Dec p ds C1) (hp : C1.Perm C2) : Dec p ds C2 :=
  ⟨h.nd, fun l hl => h.cy l (hp.mem_iff.2 hl), hp.symm.flatten.trans h.perm⟩
theorem Dec.congr {p q : α → α} {ds : List α} {C : List (List α)} (h : Dec p ds C) (hq : ∀ a ∈ ds, p a = q a) : Dec q ds C :=
  ⟨h.nd, fun l hl => (h.cy l hl).congr fun a ha => hq a (h.perm.mem_iff.1 (List.mem_flatten.2 ⟨l, hl, ha⟩)), h.perm⟩
theorem Dec.rot {p : α → α} {ds a b : List α} {C : List (List α)} (h : Dec p ds ((a ++ b) :: C)) : Dec p ds ((b ++ a) :: C) :=
  ⟨h.nd, fun l hl => (List.mem_cons.1 hl).elim (fun e => e ▸ (h.cy _ (.head _)).rot) fun hl => h.cy l (.tail _ hl), (by
    simp only [List.flatten_cons]
    exact (List.perm_append_comm.append_right _).trans (by have := h.perm; rwa [List.flatten_cons] at this))⟩
/-- a list that holds an element, forward, and this one ahead -/
theorem Dec.front {p : α → α} {ds : List α} {C : List (List α)} (h : Dec p ds C) {x : α} (hx : x ∈ ds) : ∃ (A : List α) (l : List α × List α) (rest : List (List α)), x :: A = l.2 ++ l.1 ∧ C.Perm ((l.1 ++ l.2) :: rest) ∧ Dec p ds ((x :: A) :: rest) := by
  obtain ⟨l, hl, hxl⟩ := List.mem_flatten.1 (h.perm.mem_iff.2 hx)
  obtain ⟨a, b, rfl⟩ := List.append_of_mem hl
  obtain ⟨l1, l2, rfl⟩ := List.append_of_mem hxl
  refine ⟨l2 ++ l1, (l1, x :: l2), a ++ b, rfl, List.perm_middle, ?_⟩
  have := (h.order (C2 := (l1 ++ x :: l2) :: (a ++ b)) List.perm_middle).rot
  simpa using this
variable [DecidableEq α]
/-- two swapped ahead -/
def swp (p : α → α) (x y z : α) : α := if z = x then p y else if z = y then p x else p z
theorem swp_x (p : α → α) (x y : α) : swp p x y x = p y := if_pos rfl
theorem swp_y {p : α → α} {x y : α} (h : x ≠ y) : swp p x y y = p x := by rw [swp, if_neg (Ne.symm h), if_pos rfl]
theorem swp_o {p : α → α} {x y z : α} (hx : z ≠ x) (hy : z ≠ y) : swp p x y z = p z := by rw [swp, if_neg hx, if_neg hy]
theorem st_swp {p : α → α} {x y : α} {l : List α} {s t : α} (hx : x ∉ l) (hy : y ∉ l) (h : st p l s t) : st (swp p x y) l s t :=
  st_congr (fun a ha => (swp_o (p := p) (x := x) (y := y) (z := a) (fun e => hx (by rw [← e]; exact ha)) (fun e => hy (by rw [← e]; exact ha))).symm) h
theorem cy_swp {p : α → α} {x y : α} {l : List α} (hx : x ∉ l) (hy : y ∉ l) (h : Cy p l) : Cy (swp p x y) l := ⟨h.1, h.2.imp fun _ => st_swp hx hy⟩
theorem Dec.merge {p : α → α} {ds A B : List α} {C : List (List α)} {x y : α} (h : Dec p ds ((x :: A) :: (y :: B) :: C)) : Dec (swp p x y) ds ((x :: (B ++ y :: A)) :: C) := by
  have hp := h.perm
  have hn := hp.nodup_iff.2 h.nd
  simp only [List.flatten_cons, List.cons_append, List.nodup_cons, List.mem_append, List.mem_cons, not_or, List.nodup_append, List.mem_flatten] at hn
  have hxy : x ≠ y := hn.1.2.1
  have n1 := hn.2.2.2 
  refine ⟨h.nd, fun l hl => ?_, (?_ : List.Perm _ _).trans hp⟩
  · rcases List.mem_cons.1 hl with rfl | hl
    · have c1 := Cy.cons.1 (h.cy _ (.head _))
      have c2 := Cy.cons.1 (h.cy _ (.tail _ (.head _)))
      have xA : x ∉ A := hn.1.1
      have xB : x ∉ B := hn.1.2.2.1
      have yA : y ∉ A := fun hy => n1 _ hy _ (.inl rfl) rfl
      have yB : y ∉ B := hn.2.2.1.1.1
      rw [Cy.cons, swp_x]
      refine st_app.2 ⟨y, st_swp xB yB c2, rfl, ?_⟩
      rw [swp_y hxy]
      exact st_swp xA yA c1
    · have hx : x ∉ l := fun hx => hn.1.2.2.2 ⟨l, hl, hx⟩
      have hy : y ∉ l := fun hy => hn.2.2.1.1.2 ⟨l, hl, hy⟩
      exact cy_swp hx hy (h.cy l (.tail _ (.tail _ hl)))
  · simp only [List.flatten_cons, List.cons_append]
    refine List.Perm.cons x ?_
    have : (B ++ y :: A ++ C.flatten).Perm (y :: (B ++ A) ++ C.flatten) := List.perm_middle.append_right _
    refine this.trans ?_
    have h2 : (A ++ y :: (B ++ C.flatten)).Perm (y :: (A ++ (B ++ C.flatten))) := List.perm_middle
    refine (List.Perm.cons y ?_).trans h2.symm
    rw [← List.append_assoc]
    exact List.perm_append_comm.append_right _
theorem Dec.split {p : α → α} {ds A B : List α} {C : List (List α)} {x y : α} (h : Dec p ds ((x :: (A ++ y :: B)) :: C)) : Dec (swp p x y) ds ((x :: B) :: (y :: A) :: C) := by
  have hp := h.perm
  have hn := hp.nodup_iff.2 h.nd
  simp only [List.flatten_cons, List.cons_append, List.append_assoc, List.nodup_cons, List.mem_append, List.mem_cons, not_or, List.nodup_append, List.mem_flatten] at hn
  have hxy : x ≠ y := hn.1.2.1
  have n1 := hn.2.2.2
  refine ⟨h.nd, fun l hl => ?_, (?_ : List.Perm _ _).trans hp⟩
  · have xA : x ∉ A := hn.1.1
    have xB : x ∉ B := hn.1.2.2.1
    have yA : y ∉ A := fun hy => n1 _ hy _ (.inl rfl) rfl
    have yB : y ∉ B := hn.2.2.1.1.1
    have c := Cy.cons.1 (h.cy _ (.head _))
    obtain ⟨m, c1, e, c2⟩ := st_app.1 c
    rw [e] at c1
    rcases List.mem_cons.1 hl with rfl | hl
    · rw [Cy.cons, swp_x]
      exact st_swp xB yB c2
    · rcases List.mem_cons.1 hl with rfl | hl
      · rw [Cy.cons, swp_y hxy]
        exact st_swp xA yA c1
      · have hx : x ∉ l := fun hx => hn.1.2.2.2 ⟨l, hl, hx⟩
        have hy : y ∉ l := fun hy => hn.2.2.1.1.2 ⟨l, hl, hy⟩
        exact cy_swp hx hy (h.cy l (.tail _ hl))
  · simp only [List.flatten_cons, List.cons_append, List.append_assoc]
    refine List.Perm.cons x ?_
    have h1 : (B ++ y :: (A ++ C.flatten)).Perm (y :: (B ++ (A ++ C.flatten))) := List.perm_middle
    have h2 : (A ++ y :: (B ++ C.flatten)).Perm (y :: (A ++ (B ++ C.flatten))) := List.perm_middle
    refine h1.trans ((List.Perm.cons y ?_).trans h2.symm)
    rw [← List.append_assoc, ← List.append_assoc]
    exact List.perm_append_comm.append_right _
/-- one cycle more, or one less -/
theorem Dec.swap {p : α → α} {ds : List α} {C : List (List α)} {x y : α} (h : Dec p ds C) (hx : x ∈ ds) (hy : y ∈ ds) (hxy : x ≠ y) :
    ∃ C', Dec (swp p x y) ds C' ∧ (C'.length = C.length + 1 ∨ C'.length + 1 = C.length) := by
  obtain ⟨A, l, rest, _, hC, h1⟩ := h.front hx
  have hlen : C.length = rest.length + 1 := by simpa using hC.length_eq
  have hy1 := h1.perm.mem_iff.2 hy
  simp only [List.flatten_cons, List.cons_append, List.mem_cons, Ne.symm hxy, false_or, List.mem_append] at hy1
  rcases hy1 with hy1 | hy1
  · obtain ⟨a, b, rfl⟩ := List.append_of_mem hy1
    exact ⟨_, h1.split, .inl (by simp [hlen])⟩
  · obtain ⟨m, hm, hym⟩ := List.mem_flatten.1 hy1
    obtain ⟨r1, r2, rfl⟩ := List.append_of_mem hm
    obtain ⟨a, b, rfl⟩ := List.append_of_mem hym
    have h2 : Dec p ds ((a ++ y :: b) :: (x :: A) :: (r1 ++ r2)) := h1.order ((List.Perm.cons _ List.perm_middle).trans (List.Perm.swap _ _ _))
    have h3 := h2.rot.order (List.Perm.swap _ _ _)
    rw [List.cons_append] at h3
    exact ⟨_, h3.merge, .inr (by simp [hlen]; omega)⟩
def tr (F : α → α) (d : α) : Nat → α → List α
  | 0, _ => []
  | n + 1, x => x :: if F x = d then [] else tr F d n (F x)
/-- on the way -/
structure InF (F : α → α) (ds : List α) (out : List (List α)) (d : α) (f : List α) (x : α) : Prop where
  st : st F f d x
  nd : f.Nodup
  sub : ∀ z ∈ f, z ∈ ds
  new : ∀ z ∈ f, z ∉ out.flatten
  mem : x ∈ ds
  far : x ∉ out.flatten
section
variable {F : α → α} {ds : List α} {out : List (List α)} {d x : α} {f : List α}
theorem st_pred : ∀ {l : List α} {s t z : α}, st F l s t → z ∈ l → z = s ∨ ∃ w ∈ l.dropLast, F w = z
  | a :: l, s, t, z, ⟨h1, h2⟩, hz => by
    rcases List.mem_cons.1 hz with rfl | hz
    · exact .inl h1.symm
    · right
      cases l with
      | nil => simp at hz
      | cons b l =>
        rcases st_pred h2 hz with e | ⟨w, hw, e⟩
        · exact ⟨a, by simp, e.symm⟩
        · exact ⟨w, by simp [hw], e⟩
theorem st_last : ∀ {l : List α} {s t : α} (h : l ≠ []), st F l s t → F (l.getLast h) = t
  | [a], s, t, h, ⟨_, h2⟩ => h2
  | a :: b :: l, s, t, h, ⟨_, h2⟩ => by
    rw [List.getLast_cons (by simp)]
    exact st_last (by simp) h2
/-- what was met is the way's beginning -/
theorem InF.met (h : InF F ds out d f x) (hi : ∀ a ∈ ds, ∀ b ∈ ds, F a = F b → a = b) (hx : x ∈ f) : x = d := by
  rcases st_pred h.st hx with e | ⟨w, hw, e⟩
  · exact e
  · exfalso
    have hne : f ≠ [] := fun e => by rw [e] at hx; simp at hx
    have hl := st_last hne h.st
    have e2 : w = f.getLast hne := hi _ (h.sub _ (List.dropLast_subset _ hw)) _ (h.sub _ (List.getLast_mem _)) (e.trans hl.symm)
    have := h.nd
    rw [← List.dropLast_concat_getLast hne, List.nodup_append] at this
    exact this.2.2 w hw (f.getLast hne) (by simp) e2
theorem InF.more (h : InF F ds out d f x) (hi : ∀ a ∈ ds, ∀ b ∈ ds, F a = F b → a = b) (hm : ∀ a ∈ ds, F a ∈ ds) (hc : ∀ l ∈ out, Cy F l) (ho : ∀ z ∈ out.flatten, z ∈ ds) (hne : f = [] ∨ x ≠ d) : x ∉ f ∧ InF F ds out d (f ++ [x]) (F x) := by
  have hx : x ∉ f := fun hx => by
    rcases hne with rfl | hne
    · simp at hx
    · exact hne (h.met hi hx)
  refine ⟨hx, st_app.2 ⟨x, h.st, rfl, rfl⟩, List.nodup_append.2 ⟨h.nd, by simp, fun a ha b hb e => by
    obtain rfl : b = x := by simpa using hb
    exact hx (e ▸ ha)⟩, fun z hz => ?_, fun z hz => ?_, hm _ h.mem, fun hf => ?_⟩
  · rcases List.mem_append.1 hz with hz | hz
    · exact h.sub z hz
    · obtain rfl : z = x := by simpa using hz
      exact h.mem
  · rcases List.mem_append.1 hz with hz | hz
    · exact h.new z hz
    · obtain rfl : z = x := by simpa using hz
      exact h.far
  · obtain ⟨l, hl, hz⟩ := List.mem_flatten.1 hf
    refine h.far ?_
    have hc1 := hc l hl
    obtain ⟨l1, l2, rfl⟩ := List.append_of_mem hz
    have hr := hc1.rot
    rw [List.cons_append] at hr
    have hs : Fil.st F (F x :: (l2 ++ l1)) (F x) (F x) := ⟨rfl, Cy.cons.1 hr⟩
    have hlast := st_last (by simp) hs
    have hmem : (F x :: (l2 ++ l1)).getLast (by simp) ∈ l1 ++ F x :: l2 := by
      have := List.getLast_mem (l := F x :: (l2 ++ l1)) (by simp)
      simp only [List.mem_cons, List.mem_append] at this ⊢
      rcases this with h | h | h
      · exact .inr (.inl h)
      · exact .inr (.inr h)
      · exact .inl h
    have hin : (F x :: (l2 ++ l1)).getLast (by simp) ∈ out.flatten := List.mem_flatten.2 ⟨_, hl, hmem⟩
    rwa [hi _ (ho _ hin) _ h.mem hlast] at hin
theorem InF.room (h : InF F ds out d f x) (hx : x ∉ f) : f.length + 1 ≤ ds.length := by
  have : (f ++ [x]).Nodup := List.nodup_append.2 ⟨h.nd, by simp, fun a ha b hb e => by
    obtain rfl : b = x := by simpa using hb
    exact hx (e ▸ ha)⟩
  have := sub_length this fun z hz => by
    rcases List.mem_append.1 hz with hz | hz
    · exact h.sub z hz
    · obtain rfl : z = x := by simpa using hz
      exact h.mem
  simpa using this
/-- the whole way -/
theorem InF.all (hi : ∀ a ∈ ds, ∀ b ∈ ds, F a = F b → a = b) (hm : ∀ a ∈ ds, F a ∈ ds) (hc : ∀ l ∈ out, Cy F l) (ho : ∀ z ∈ out.flatten, z ∈ ds) : ∀ (n : Nat) {f : List α} {x : α}, InF F ds out d f x → (f = [] ∨ x ≠ d) → ds.length ≤ f.length + n →
    InF F ds out d (f ++ tr F d n x) d ∧ f ++ tr F d n x ≠ []
  | 0, f, x, h, hne, hn => by
    have := h.room (h.more hi hm hc ho hne).1
    omega
  | n + 1, f, x, h, hne, hn => by
    obtain ⟨_, h1⟩ := h.more hi hm hc ho hne
    rw [tr]
    split
    · rename_i e
      rw [e] at h1
      exact ⟨h1, by simp⟩
    · rename_i e
      have := InF.all hi hm hc ho n h1 (.inr e) (by simp; omega)
      simp only [List.append_assoc, List.cons_append, List.nil_append] at this
      exact this
end
def facesStep (F : α → α) (n : Nat) (out : List (List α)) (d : α) : List (List α) := if d ∈ out.flatten then out else out ++ [tr F d n d]
def facesL (F : α → α) (n : Nat) (ds : List α) : List (List α) := ds.foldl (facesStep F n) []
structure Fs (F : α → α) (ds : List α) (out : List (List α)) : Prop where
  cy : ∀ l ∈ out, Cy F l
  nd : out.flatten.Nodup
  sub : ∀ z ∈ out.flatten, z ∈ ds
theorem Fs.start {F : α → α} {ds : List α} {out : List (List α)} {d : α} (h : Fs F ds out) (hd : d ∈ ds) (hf : d ∉ out.flatten) : InF F ds out d [] d := ⟨rfl, by simp, by simp, by simp, hd, hf⟩
theorem Fs.step {F : α → α} {ds : List α} {out : List (List α)} {d : α} {n : Nat} (hi : ∀ a ∈ ds, ∀ b ∈ ds, F a = F b → a = b) (hm : ∀ a ∈ ds, F a ∈ ds) (hn : ds.length ≤ n) (h : Fs F ds out) (hd : d ∈ ds) :
    Fs F ds (facesStep F n out d) ∧ d ∈ (facesStep F n out d).flatten ∧ ∀ z ∈ out.flatten, z ∈ (facesStep F n out d).flatten := by
  unfold facesStep
  split
  · rename_i hf
    exact ⟨h, hf, fun _ h => h⟩
  · rename_i hf
    obtain ⟨h1, hne⟩ := InF.all hi hm h.cy h.sub n (h.start hd hf) (.inl rfl) (by simpa using hn)
    simp only [List.nil_append] at h1 hne
    have hdin : d ∈ tr F d n d := by
      cases n with
      | zero => simp [tr] at hne
      | succ n => simp [tr]
    refine ⟨⟨fun l hl => ?_, ?_, fun z hz => ?_⟩, ?_, fun z hz => ?_⟩
    · rcases List.mem_append.1 hl with hl | hl
      · exact h.cy l hl
      · obtain rfl : l = tr F d n d := by simpa using hl
        exact ⟨hne, d, h1.st⟩
    · rw [List.flatten_append, List.nodup_append]
      refine ⟨h.nd, by simpa using h1.nd, fun a ha b hb e => ?_⟩
      simp only [List.flatten_cons, List.flatten_nil, List.append_nil] at hb
      exact h1.new b hb (e ▸ ha)
    · rw [List.flatten_append, List.mem_append] at hz
      rcases hz with hz | hz
      · exact h.sub z hz
      · exact h1.sub z (by simpa using hz)
    · simp [hdin]
    · rw [List.flatten_append, List.mem_append]
      exact .inl hz
theorem Fs.fold {F : α → α} {ds : List α} {n : Nat} (hi : ∀ a ∈ ds, ∀ b ∈ ds, F a = F b → a = b) (hm : ∀ a ∈ ds, F a ∈ ds) (hn : ds.length ≤ n) : ∀ (l : List α) (out : List (List α)), Fs F ds out → (∀ z ∈ l, z ∈ ds) →
    Fs F ds (l.foldl (facesStep F n) out) ∧ (∀ z ∈ l, z ∈ (l.foldl (facesStep F n) out).flatten) ∧ ∀ z ∈ out.flatten, z ∈ (l.foldl (facesStep F n) out).flatten
  | [], out, h, _ => ⟨h, by simp, fun _ h => h⟩
  | d :: l, out, h, hl => by
    obtain ⟨h1, h2, h3⟩ := h.step hi hm hn (hl d (.head _))
    obtain ⟨h4, h5, h6⟩ := Fs.fold hi hm hn l _ h1 fun z hz => hl z (.tail _ hz)
    exact ⟨h4, fun z hz => (List.mem_cons.1 hz).elim (fun e => h6 _ (e ▸ h2)) (h5 z), fun z hz => h6 z (h3 z hz)⟩
theorem faces_dec {F : α → α} {ds : List α} {n : Nat} (hd : ds.Nodup) (hi : ∀ a ∈ ds, ∀ b ∈ ds, F a = F b → a = b) (hm : ∀ a ∈ ds, F a ∈ ds) (hn : ds.length ≤ n) : Dec F ds (facesL F n ds) := by
  obtain ⟨h1, h2, _⟩ := Fs.fold hi hm hn ds [] ⟨by simp, by simp, by simp⟩ fun _ h => h
  exact ⟨hd, h1.cy, perm_of_nodup h1.nd hd fun z => ⟨h1.sub z, h2 z⟩⟩
end
end Fil
end
section
set_option linter.unusedVariables false
set_option linter.unusedSectionVars false
namespace Fil
def rev (d : (Nat × Nat)) : (Nat × Nat) := (d.2, d.1)
/-- the one behind, around -/
def cyc (l : List Nat) (u : Nat) : Nat := l.getD ((l.idxOf u + 1) % l.length) 0
def sg (R : Nat → List Nat) (d : (Nat × Nat)) : (Nat × Nat) := (d.1, cyc (R d.1) d.2)
def nxt (R : Nat → List Nat) (d : (Nat × Nat)) : (Nat × Nat) := (d.2, cyc (R d.2) d.1)
def vc (R : Nat → List Nat) (v : Nat) : List (Nat × Nat) := (R v).map fun u => (v, u)
def dartsOf (R : Nat → List Nat) (c : List Nat) : List (Nat × Nat) := c.flatMap (vc R)
structure Sys (l : List (Nat × Nat)) (R : Nat → List Nat) : Prop where
  nd : ∀ v, (R v).Nodup
  ed : ∀ u v, u ∈ R v ↔ (v, u) ∈ l ∨ (u, v) ∈ l
  lt : ∀ e ∈ l, e.1 < e.2
  ndl : l.Nodup
theorem cyc_at {l : List Nat} (h : l.Nodup) {i : Nat} (hi : i < l.length) : cyc l l[i] = l[(i + 1) % l.length]'(Nat.mod_lt _ (by omega)) := by
  have hm : (i + 1) % l.length < l.length := Nat.mod_lt _ (by omega)
  rw [cyc, h.idxOf_getElem i hi, List.getD_eq_getElem?_getD, List.getElem?_eq_getElem hm, Option.getD_some]
theorem cyc_mem {l : List Nat} {u : Nat} (hu : u ∈ l) : cyc l u ∈ l := by
  have hm : (l.idxOf u + 1) % l.length < l.length := Nat.mod_lt _ (List.length_pos_of_mem hu)
  rw [cyc, List.getD_eq_getElem?_getD, List.getElem?_eq_getElem hm, Option.getD_some]
  exact List.getElem_mem _
theorem cyc_inj {l : List Nat} (h : l.Nodup) {a b : Nat} (ha : a ∈ l) (hb : b ∈ l) (e : cyc l a = cyc l b) : a = b := by
  obtain ⟨i, hi, rfl⟩ := List.getElem_of_mem ha
  obtain ⟨j, hj, rfl⟩ := List.getElem_of_mem hb
  rw [cyc_at h hi, cyc_at h hj] at e
  have := congrArg l.idxOf e
  rw [h.idxOf_getElem, h.idxOf_getElem] at this
  have hi' : (i + 1) % l.length = if i + 1 = l.length then 0 else i + 1 := by
    split
    · rename_i h; rw [h, Nat.mod_self]
    · exact Nat.mod_eq_of_lt (by omega)
  have hj' : (j + 1) % l.length = if j + 1 = l.length then 0 else j + 1 := by
    split
    · rename_i h; rw [h, Nat.mod_self]
    · exact Nat.mod_eq_of_lt (by omega)
  rw [hi', hj'] at this
  have hij : i = j := by
    split at this <;> split at this <;> omega
  subst hij
  rfl
theorem st_of_steps {α : Type} {p : α → α} : ∀ {l : List α} {t : α} (hl : l ≠ []), (∀ i (h : i + 1 < l.length), p l[i] = l[i + 1]) → p (l.getLast hl) = t → st p l (l.head hl) t
  | [a], t, hl, h, ht => ⟨rfl, ht⟩
  | a :: b :: l, t, hl, h, ht => by
    refine ⟨rfl, ?_⟩
    have h0 := h 0 (by simp)
    simp only [List.getElem_cons_zero, List.getElem_cons_succ, Nat.zero_add] at h0
    rw [h0]
    refine st_of_steps (l := b :: l) (by simp) (fun i hi => ?_) (by rwa [List.getLast_cons (by simp)] at ht)
    have := h (i + 1) (by simp at hi ⊢; omega)
    simpa using this
theorem cyc_cy {l : List Nat} (h : l.Nodup) (hl : l ≠ []) : Cy (cyc l) l := by
  refine ⟨hl, l.head hl, st_of_steps hl (fun i hi => ?_) ?_⟩
  · rw [cyc_at h (by omega)]
    congr 1
    exact Nat.mod_eq_of_lt hi
  · have hp : 0 < l.length := List.length_pos_iff.2 hl
    rw [List.getLast_eq_getElem, cyc_at h (by omega), List.head_eq_getElem]
    congr 1
    rw [Nat.sub_add_cancel hp, Nat.mod_self]
theorem vc_cy {l : List (Nat × Nat)} {R : Nat → List Nat} (hS : Sys l R) {v : Nat} (hv : R v ≠ []) : Cy (sg R) (vc R v) := by
  obtain ⟨_, s, h⟩ := cyc_cy (hS.nd v) hv
  exact ⟨by simpa [vc] using hv, (v, s), st_map (f := fun u => (v, u)) (fun a _ => rfl) h⟩
theorem mem_vc {R : Nat → List Nat} {v : Nat} {d : (Nat × Nat)} : d ∈ vc R v ↔ d.1 = v ∧ d.2 ∈ R v := by
  rw [vc, List.mem_map]
  exact ⟨fun ⟨u, hu, e⟩ => e ▸ ⟨rfl, hu⟩, fun ⟨e, h⟩ => ⟨d.2, h, by rw [← e]⟩⟩
theorem mem_darts {R : Nat → List Nat} {c : List Nat} {d : (Nat × Nat)} : d ∈ dartsOf R c ↔ d.1 ∈ c ∧ d.2 ∈ R d.1 := by
  rw [dartsOf, List.mem_flatMap]
  exact ⟨fun ⟨v, hv, h⟩ => by obtain ⟨e, h⟩ := mem_vc.1 h; rw [e]; exact ⟨hv, h⟩, fun ⟨h1, h2⟩ => ⟨d.1, h1, mem_vc.2 ⟨rfl, h2⟩⟩⟩
theorem darts_nodup {l : List (Nat × Nat)} {R : Nat → List Nat} (hS : Sys l R) : ∀ {c : List Nat}, c.Nodup → (dartsOf R c).Nodup
  | [], _ => by simp [dartsOf]
  | v :: c, h => by
    rw [List.nodup_cons] at h
    rw [dartsOf, List.flatMap_cons, List.nodup_append]
    refine ⟨?_, darts_nodup hS h.2, fun a ha b hb e => ?_⟩
    · rw [vc, List.Nodup, List.pairwise_map]
      exact (hS.nd v).imp fun h e => h (Prod.mk.inj e).2
    · subst e
      have h1 := (mem_vc.1 ha).1
      have h2 := (mem_darts.1 hb).1
      exact h.1 (h1 ▸ h2)
theorem Sys.sym {l : List (Nat × Nat)} {R : Nat → List Nat} (hS : Sys l R) {u v : Nat} (h : u ∈ R v) : v ∈ R u := (hS.ed v u).2 ((hS.ed u v).1 h).symm
theorem Sys.ne {l : List (Nat × Nat)} {R : Nat → List Nat} (hS : Sys l R) {u v : Nat} (h : u ∈ R v) : u ≠ v := by
  rcases (hS.ed u v).1 h with h | h <;> have := hS.lt _ h <;> simp at this <;> omega
/-- around the vertices, but over these edges -/
def pS (R : Nat → List Nat) (S : List (Nat × Nat)) (d : (Nat × Nat)) : (Nat × Nat) := if d ∈ S ∨ rev d ∈ S then sg R (rev d) else sg R d
theorem pS_nil (R : Nat → List Nat) (d : (Nat × Nat)) : pS R [] d = sg R d := by simp [pS]
theorem pS_cons {R : Nat → List Nat} {S : List (Nat × Nat)} {a b : Nat} (hab : a ≠ b) (h1 : (a, b) ∉ S) (h2 : (b, a) ∉ S) {e : (Nat × Nat)} (he : e = (a, b) ∨ e = (b, a)) (z : (Nat × Nat)) : pS R (e :: S) z = swp (pS R S) (a, b) (b, a) z := by
  have x1 : pS R S (a, b) = sg R (a, b) := if_neg (by simp [rev, h1, h2])
  have x2 : pS R S (b, a) = sg R (b, a) := if_neg (by simp [rev, h1, h2])
  have hne : ((a, b) : (Nat × Nat)) ≠ (b, a) := fun e => hab (Prod.mk.inj e).1
  by_cases hz1 : z = (a, b)
  · subst hz1
    rw [swp_x, x2, pS, if_pos]
    · rfl
    · rcases he with rfl | rfl <;> simp [rev]
  · by_cases hz2 : z = (b, a)
    · subst hz2
      rw [swp_y hne, x1, pS, if_pos]
      · rfl
      · rcases he with rfl | rfl <;> simp [rev]
    · rw [swp_o hz1 hz2]
      have hr1 : rev z ≠ (a, b) := fun e => hz2 (by rw [rev] at e; have := Prod.mk.inj e; exact Prod.ext this.2 this.1)
      have hr2 : rev z ≠ (b, a) := fun e => hz1 (by rw [rev] at e; have := Prod.mk.inj e; exact Prod.ext this.2 this.1)
      rcases he with rfl | rfl <;> simp [pS, hz1, hz2, hr1, hr2]
/-- each vertex but the first is next to one ahead -/
def Grow (R : Nat → List Nat) (c : List Nat) : Prop := ∀ A w B, c = A ++ w :: B → A ≠ [] → ∃ v ∈ A, w ∈ R v
structure Tree (l : List (Nat × Nat)) (R : Nat → List Nat) (c : List Nat) (k : Nat) (S : List (Nat × Nat)) (big : List (Nat × Nat)) : Prop where
  nd : S.Nodup
  inl : ∀ e ∈ S, e ∈ l ∧ e.1 ∈ c.take k ∧ e.2 ∈ c.take k
  len : S.length + 1 = k
  dec : Dec (pS R S) (dartsOf R c) (big :: (c.drop k).map (vc R))
  big : ∀ d, d ∈ big ↔ d ∈ dartsOf R (c.take k)
  con : ∀ f : Nat → Nat, (∀ e ∈ S, f e.1 = f e.2) → ∀ u ∈ c.take k, ∀ v ∈ c.take k, f u = f v
theorem tree_one {l : List (Nat × Nat)} {R : Nat → List Nat} {c : List Nat} (hS : Sys l R) (hc : c.Nodup) (hne : ∀ v ∈ c, R v ≠ []) (h1 : c ≠ []) : ∃ S big, Tree l R c 1 S big := by
  obtain ⟨v, c, rfl⟩ := List.exists_cons_of_ne_nil h1
  refine ⟨[], vc R v, by simp, by simp, rfl, ⟨darts_nodup hS hc, fun m hm => ?_, ?_⟩, fun d => by simp [dartsOf], by simp⟩
  · have : ∃ u ∈ v :: c, m = vc R u := by
      rcases List.mem_cons.1 hm with rfl | hm
      · exact ⟨v, .head _, rfl⟩
      · obtain ⟨u, hu, rfl⟩ := List.mem_map.1 hm
        exact ⟨u, List.mem_cons_of_mem _ (by simpa using hu), rfl⟩
    obtain ⟨u, hu, rfl⟩ := this
    exact (vc_cy hS (hne u hu)).congr fun a _ => (pS_nil R a).symm
  · simp [dartsOf, List.flatMap_def]
theorem tree_more {l : List (Nat × Nat)} {R : Nat → List Nat} {c : List Nat} {k : Nat} (hS : Sys l R) (hc : c.Nodup) (hg : Grow R c) (h1 : 1 ≤ k) (hk : k < c.length) {S big : List (Nat × Nat)} (h : Tree l R c k S big) : ∃ S big, Tree l R c (k + 1) S big := by
  have hsp : c = c.take k ++ c[k] :: c.drop (k + 1) := by rw [List.getElem_cons_drop, List.take_append_drop]
  generalize hw : c[k] = w at hsp
  obtain ⟨v, hv, hwv⟩ := hg _ _ _ hsp (by
    intro e
    have := congrArg List.length e
    rw [List.length_take, List.length_nil] at this; omega)
  have hvw := hS.sym hwv
  have hne := hS.ne hwv
  have hwn : w ∉ c.take k := fun hh => by
    rw [hsp, List.nodup_append] at hc
    exact hc.2.2 w hh w (.head _) rfl
  have hd : c.drop k = w :: c.drop (k + 1) := by rw [← hw, List.getElem_cons_drop]
  have ht : c.take (k + 1) = c.take k ++ [w] := by rw [List.take_add_one, List.getElem?_eq_getElem hk, hw]; rfl
  have hdec := h.dec
  rw [hd, List.map_cons] at hdec
  have hx : (v, w) ∈ big := (h.big _).2 (mem_darts.2 ⟨hv, hwv⟩)
  have hy : (w, v) ∈ vc R w := mem_vc.2 ⟨rfl, hvw⟩
  obtain ⟨a1, b1, e1⟩ := List.append_of_mem hx
  obtain ⟨a2, b2, e2⟩ := List.append_of_mem hy
  have hbig := h.big
  rw [e1, e2] at hdec
  have h2 := hdec.rot.order (List.Perm.swap _ _ _)
  have h3 := h2.rot.order (List.Perm.swap _ _ _)
  rw [List.cons_append, List.cons_append] at h3
  have h4 := h3.merge
  have hn1 : (v, w) ∉ S := fun hh => hwn (h.inl _ hh).2.2
  have hn2 : (w, v) ∉ S := fun hh => hwn (h.inl _ hh).2.1
  obtain ⟨e, he, hel⟩ : ∃ e : (Nat × Nat), (e = (v, w) ∨ e = (w, v)) ∧ e ∈ l := by
    rcases (hS.ed w v).1 hwv with h | h
    · exact ⟨_, .inl rfl, h⟩
    · exact ⟨_, .inr rfl, h⟩
  refine ⟨e :: S, _, List.nodup_cons.2 ⟨?_, h.nd⟩, fun f hf => ?_, by simp [h.len], h4.congr fun d _ => (pS_cons (Ne.symm hne) hn1 hn2 he d).symm, fun d => ?_, fun f hf => ?_⟩
  · rcases he with rfl | rfl
    · exact hn1
    · exact hn2
  · rw [ht]
    rcases List.mem_cons.1 hf with rfl | hf
    · refine ⟨hel, ?_⟩
      rcases he with rfl | rfl <;> simp [hv]
    · obtain ⟨i1, i2, i3⟩ := h.inl f hf
      exact ⟨i1, List.mem_append.2 (.inl i2), List.mem_append.2 (.inl i3)⟩
  · have hb := h.big d
    have hv2 : d ∈ vc R w ↔ d ∈ a2 ++ (w, v) :: b2 := by rw [e2]
    rw [ht, dartsOf, List.flatMap_append, List.mem_append, ← dartsOf, ← hb, e1]
    simp only [List.flatMap_cons, List.flatMap_nil, List.append_nil, hv2, List.mem_append, List.mem_cons]
    constructor
    · rintro (h | (h | h) | h | h | h) <;> simp [h]
    · rintro ((h | h | h) | h | h | h) <;> simp [h]
  · have h5 := h.con f fun e he => hf e (.tail _ he)
    have h6 : f w = f v := by
      have := hf e (.head _)
      rcases he with rfl | rfl
      · exact this.symm
      · exact this
    have h7 : ∀ u ∈ c.take (k + 1), f u = f v := fun u hu => by
      rw [ht] at hu
      rcases List.mem_append.1 hu with hu | hu
      · exact h5 u hu v hv
      · obtain rfl : u = w := by simpa using hu
        exact h6
    exact fun u hu z hz => (h7 u hu).trans (h7 z hz).symm
theorem tree_all {l : List (Nat × Nat)} {R : Nat → List Nat} {c : List Nat} (hS : Sys l R) (hc : c.Nodup) (hg : Grow R c) (hne : ∀ v ∈ c, R v ≠ []) (h1 : c ≠ []) : ∀ k, 1 ≤ k → k ≤ c.length → ∃ S big, Tree l R c k S big := by
  intro k hk
  induction k with
  | zero => omega
  | succ k ih =>
    intro hk2
    by_cases h0 : k = 0
    · subst h0
      exact tree_one hS hc hne h1
    · obtain ⟨S, big, h⟩ := ih (by omega) (by omega)
      exact tree_more hS hc hg (by omega) (by omega) h
theorem rest_all {l : List (Nat × Nat)} {R : Nat → List Nat} {c : List Nat} {S : List (Nat × Nat)} (hS : Sys l R) (hcl : ∀ v ∈ c, ∀ u ∈ R v, u ∈ c) {C : List (List (Nat × Nat))} (h : Dec (pS R S) (dartsOf R c) C) : ∀ (L : List (Nat × Nat)), L.Nodup → (∀ e ∈ L, e ∈ l ∧ e ∉ S ∧ rev e ∉ S ∧ e.1 ∈ c) →
    ∃ C' g, Dec (pS R (L ++ S)) (dartsOf R c) C' ∧ C'.length + 2 * g = C.length + L.length
  | [], _, _ => ⟨C, 0, h, by simp⟩
  | e :: L, hn, hL => by
    rw [List.nodup_cons] at hn
    obtain ⟨C1, g, h1, h2⟩ := rest_all hS hcl h L hn.2 fun f hf => hL f (.tail _ hf)
    obtain ⟨i1, i2, i3, i4⟩ := hL e (.head _)
    have hlt := hS.lt _ i1
    have m1 : e.2 ∈ R e.1 := (hS.ed _ _).2 (.inl i1)
    have hx : (e.1, e.2) ∈ dartsOf R c := mem_darts.2 ⟨i4, m1⟩
    have hy : (e.2, e.1) ∈ dartsOf R c := mem_darts.2 ⟨hcl _ i4 _ m1, hS.sym m1⟩
    have hne : ((e.1, e.2) : (Nat × Nat)) ≠ (e.2, e.1) := fun h => by have := (Prod.mk.inj h).1; omega
    obtain ⟨C2, h3, h4⟩ := h1.swap hx hy hne
    have hn1 : (e.1, e.2) ∉ L ++ S := fun hh => (List.mem_append.1 hh).elim hn.1 i2
    have hn2 : (e.2, e.1) ∉ L ++ S := fun hh => (List.mem_append.1 hh).elim (fun hh => by
      have := hS.lt _ (hL _ (.tail _ hh)).1
      simp at this; omega) i3
    have hdec : Dec (pS R (e :: L ++ S)) (dartsOf R c) C2 := h3.congr fun d _ => (pS_cons (by omega) hn1 hn2 (.inl rfl) d).symm
    rcases h4 with h4 | h4
    · exact ⟨C2, g, hdec, by simp only [List.length_cons]; omega⟩
    · exact ⟨C2, g + 1, hdec, by simp only [List.length_cons]; omega⟩
theorem nxt_inj {l : List (Nat × Nat)} {R : Nat → List Nat} {c : List Nat} (hS : Sys l R) : ∀ a ∈ dartsOf R c, ∀ b ∈ dartsOf R c, nxt R a = nxt R b → a = b := by
  intro a ha b hb e
  obtain ⟨e1, e2⟩ := Prod.mk.inj e
  rw [← e1] at e2
  have m1 := hS.sym (mem_darts.1 ha).2
  have m2 := hS.sym (mem_darts.1 hb).2
  rw [← e1] at m2
  exact Prod.ext (cyc_inj (hS.nd _) m1 m2 e2) e1
theorem nxt_mem {l : List (Nat × Nat)} {R : Nat → List Nat} {c : List Nat} (hS : Sys l R) (hcl : ∀ v ∈ c, ∀ u ∈ R v, u ∈ c) : ∀ a ∈ dartsOf R c, nxt R a ∈ dartsOf R c := by
  intro a ha
  obtain ⟨h1, h2⟩ := mem_darts.1 ha
  exact mem_darts.2 ⟨hcl _ h1 _ h2, cyc_mem (hS.sym h2)⟩
theorem darts_length {l : List (Nat × Nat)} {R : Nat → List Nat} {c : List Nat} (hS : Sys l R) (hc : c.Nodup) (hcl : ∀ v ∈ c, ∀ u ∈ R v, u ∈ c) : (dartsOf R c).length = 2 * (l.filter fun e => decide (e.1 ∈ c)).length := by
  have hp : (dartsOf R c).Perm ((l.filter fun e => decide (e.1 ∈ c)) ++ (l.filter fun e => decide (e.1 ∈ c)).map rev) := by
    refine perm_of_nodup (darts_nodup hS hc) (List.nodup_append.2 ⟨hS.ndl.sublist List.filter_sublist, ?_, fun a ha b hb e => ?_⟩) fun d => ?_
    · rw [List.Nodup, List.pairwise_map]
      exact (hS.ndl.sublist List.filter_sublist).imp fun h e => h (by simp only [rev, Prod.mk.injEq] at e; exact Prod.ext e.2 e.1)
    · subst e
      obtain ⟨x, hx, rfl⟩ := List.mem_map.1 hb
      have h1 := hS.lt _ (List.mem_filter.1 ha).1
      have h2 := hS.lt _ (List.mem_filter.1 hx).1
      simp [rev] at h1; omega
    · simp only [mem_darts, List.mem_append, List.mem_filter, List.mem_map, decide_eq_true_eq, hS.ed]
      constructor
      · rintro ⟨h1, h | h⟩
        · exact .inl ⟨h, h1⟩
        · exact .inr ⟨(d.2, d.1), ⟨h, hcl _ h1 _ ((hS.ed _ _).2 (.inr h))⟩, rfl⟩
      · rintro (⟨h, h1⟩ | ⟨x, ⟨h, h1⟩, rfl⟩)
        · exact ⟨h1, .inl h⟩
        · exact ⟨hcl _ h1 _ ((hS.ed _ _).2 (.inl h)), .inr h⟩
  have := hp.length_eq
  simp at this
  omega
theorem filter_flat {α : Type} (q : List α → Bool) : ∀ (C : List (List α)), (C.filter q).flatten.Sublist C.flatten
  | [] => .slnil
  | l :: C => by
    rw [List.filter_cons]
    split
    · exact (List.Sublist.refl l).append (filter_flat q C)
    · exact (filter_flat q C).trans (List.sublist_append_right _ _)
/-- the faces of a component are those among all that begin in it -/
theorem faces_in {l : List (Nat × Nat)} {R : Nat → List Nat} {c a : List Nat} {C : List (List (Nat × Nat))} (hS : Sys l R) (hc : c.Nodup) (hcl : ∀ v ∈ c, ∀ u ∈ R v, u ∈ c) (hca : ∀ v ∈ c, v ∈ a) (h : Dec (nxt R) (dartsOf R a) C) :
    Dec (nxt R) (dartsOf R c) (C.filter fun f => decide ((f.headD (0, 0)).1 ∈ c)) := by
  have hside : ∀ f ∈ C, ∀ d ∈ f, (d.1 ∈ c ↔ (f.headD (0, 0)).1 ∈ c) := fun f hf d hd => by
    have hcy := h.cy f hf
    have hin : ∀ z ∈ f, z.2 ∈ R z.1 := fun z hz => (mem_darts.1 (h.perm.mem_iff.1 (List.mem_flatten.2 ⟨f, hf, hz⟩))).2
    have key : ∀ x ∈ f, x.1 ∈ c → ∀ z ∈ f, z.1 ∈ c := fun x hx hxc z hz =>
      (hcy.in (p := nxt R) (S := fun z => z.1 ∈ c ∧ z.2 ∈ R z.1) (fun z hz => ⟨hcl _ hz.1 _ hz.2, cyc_mem (hS.sym hz.2)⟩) hx ⟨hxc, hin x hx⟩ z hz).1
    have hh : f.headD (0, 0) ∈ f := by
      cases f with
      | nil => simp at hd
      | cons x f => simp
    exact ⟨fun h1 => key d hd h1 _ hh, fun h1 => key _ hh h1 d hd⟩
  have hnd : C.flatten.Nodup := h.perm.nodup_iff.2 h.nd
  refine ⟨darts_nodup hS hc, fun f hf => h.cy f (List.mem_filter.1 hf).1, perm_of_nodup (hnd.sublist (filter_flat _ C)) (darts_nodup hS hc) fun d => ?_⟩
  rw [List.mem_flatten, mem_darts]
  constructor
  · rintro ⟨f, hf, hd⟩
    obtain ⟨h1, h2⟩ := List.mem_filter.1 hf
    exact ⟨(hside f h1 d hd).2 (by simpa using h2), (mem_darts.1 (h.perm.mem_iff.1 (List.mem_flatten.2 ⟨f, h1, hd⟩))).2⟩
  · rintro ⟨h1, h2⟩
    obtain ⟨f, hf, hd⟩ := List.mem_flatten.1 (h.perm.mem_iff.2 (mem_darts.2 ⟨hca _ h1, h2⟩))
    exact ⟨f, List.mem_filter.2 ⟨hf, by simpa using (hside f hf d hd).1 h1⟩, hd⟩
theorem st_back {α β : Type} {p : α → α} {q : β → β} {h : α → β} : ∀ {l : List α} {s t : α}, (∀ a ∈ l, q (h (p a)) = h a) → st p l s t → st q (l.map fun a => h (p a)).reverse (h t) (h s)
  | [], s, t, _, e => (congrArg h e).symm
  | a :: l, s, t, hq, ⟨e, h2⟩ => by
    rw [List.map_cons, List.reverse_cons]
    exact st_app.2 ⟨h (p a), st_back (fun b hb => hq b (.tail _ hb)) h2, rfl, by rw [hq a (.head _), e]; rfl⟩
theorem st_shift {α : Type} {p : α → α} : ∀ {l : List α} {s t : α}, st p l s t → s :: l.map p = l ++ [t]
  | [], s, t, h => by cases h; rfl
  | a :: l, s, t, ⟨e, h⟩ => by
    subst e
    have := st_shift h
    rw [List.map_cons, this]; rfl
theorem cy_perm {α : Type} {p : α → α} {l : List α} (h : Cy p l) : (l.map p).Perm l := by
  obtain ⟨_, s, h⟩ := h
  have h1 := st_shift h
  have h2 : (s :: l.map p).Perm (s :: l) := by rw [h1]; exact List.perm_append_comm
  exact h2.cons_inv
theorem Dec.back {α : Type} {p q : α → α} {h : α → α} {ds : List α} {C : List (List α)} (hd : Dec p ds C) (hq : ∀ a ∈ ds, q (h (p a)) = h a) (hh : (ds.map h).Perm ds) : Dec q ds (C.map fun f => (f.map fun a => h (p a)).reverse) := by
  have hm : ∀ f ∈ C, ∀ a ∈ f, a ∈ ds := fun f hf a ha => hd.perm.mem_iff.1 (List.mem_flatten.2 ⟨f, hf, ha⟩)
  refine ⟨hd.nd, fun l hl => ?_, ?_⟩
  · obtain ⟨f, hf, rfl⟩ := List.mem_map.1 hl
    obtain ⟨h1, s, h2⟩ := hd.cy f hf
    exact ⟨by simpa using h1, h s, st_back (fun a ha => hq a (hm f hf a ha)) h2⟩
  · have key : ∀ (C : List (List α)), (∀ f ∈ C, Cy p f) → (C.map fun f => (f.map fun a => h (p a)).reverse).flatten.Perm (C.flatten.map h) := by
      intro C
      induction C with
      | nil => intro _; exact .refl _
      | cons f C ih =>
        intro hC
        rw [List.map_cons, List.flatten_cons, List.flatten_cons, List.map_append]
        refine List.Perm.append ?_ (ih fun g hg => hC g (.tail _ hg))
        refine (List.reverse_perm _).trans ?_
        have := (cy_perm (hC f (.head _))).map h
        rwa [List.map_map] at this
    exact (key C hd.cy).trans ((hd.perm.map h).trans hh)
theorem cyc_back {l : List Nat} (h : l.Nodup) {u : Nat} (hu : u ∈ l) : cyc l.reverse (cyc l u) = u := by
  obtain ⟨i, hi, rfl⟩ := List.getElem_of_mem hu
  rw [cyc_at h hi]
  have hr : l.reverse.Nodup := by rw [List.Nodup, List.pairwise_reverse]; exact h.imp Ne.symm
  have hm : (i + 1) % l.length < l.length := Nat.mod_lt _ (by omega)
  have e1 : l[(i + 1) % l.length] = l.reverse[l.length - 1 - (i + 1) % l.length]'(by simp; omega) := by
    rw [List.getElem_reverse]
    congr 1; omega
  rw [e1, cyc_at hr (by simp; omega), List.getElem_reverse]
  congr 1
  simp only [List.length_reverse]
  by_cases hl : i + 1 = l.length
  · rw [hl, Nat.mod_self, show l.length - 1 - 0 + 1 = l.length by omega, Nat.mod_self]; omega
  · rw [Nat.mod_eq_of_lt (show i + 1 < l.length by omega), Nat.mod_eq_of_lt (by omega)]; omega
theorem Sys.mirror {l : List (Nat × Nat)} {R : Nat → List Nat} (hS : Sys l R) : Sys l fun v => (R v).reverse where
  nd v := by show ((R v).reverse).Nodup; rw [List.Nodup, List.pairwise_reverse]; exact (hS.nd v).imp Ne.symm
  ed u v := by rw [List.mem_reverse]; exact hS.ed u v
  lt := hS.lt
  ndl := hS.ndl
theorem darts_rev {l : List (Nat × Nat)} {R : Nat → List Nat} {c : List Nat} (hS : Sys l R) (hc : c.Nodup) (hcl : ∀ v ∈ c, ∀ u ∈ R v, u ∈ c) : ((dartsOf R c).map rev).Perm (dartsOf R c) := by
  have hd := darts_nodup hS hc
  refine perm_of_nodup ?_ hd fun d => ?_
  · rw [List.Nodup, List.pairwise_map]
    exact hd.imp fun h e => h (by simp only [rev, Prod.mk.injEq] at e; exact Prod.ext e.2 e.1)
  · rw [List.mem_map]
    constructor
    · rintro ⟨x, hx, rfl⟩
      obtain ⟨h1, h2⟩ := mem_darts.1 hx
      exact mem_darts.2 ⟨hcl _ h1 _ h2, hS.sym h2⟩
    · intro h
      obtain ⟨h1, h2⟩ := mem_darts.1 h
      exact ⟨(d.2, d.1), mem_darts.2 ⟨hcl _ h1 _ h2, hS.sym h2⟩, rfl⟩
theorem Dec.to {α : Type} {p : α → α} {ds es : List α} {C : List (List α)} (h : Dec p ds C) (hp : ds.Perm es) : Dec p es C := ⟨hp.nodup_iff.1 h.nd, h.cy, h.perm.trans hp⟩
theorem mirror_dec {l : List (Nat × Nat)} {R : Nat → List Nat} {c : List Nat} {C : List (List (Nat × Nat))} (hS : Sys l R) (hc : c.Nodup) (hcl : ∀ v ∈ c, ∀ u ∈ R v, u ∈ c) (h : Dec (nxt R) (dartsOf R c) C) : ∃ C', C'.length = C.length ∧ Dec (nxt fun v => (R v).reverse) (dartsOf (fun v => (R v).reverse) c) C' := by
  refine ⟨_, by simp, (h.back (q := nxt fun v => (R v).reverse) (h := rev) (fun d hd => ?_) (darts_rev hS hc hcl)).to (perm_of_nodup (darts_nodup hS hc) (darts_nodup hS.mirror hc) fun d => by simp only [mem_darts, List.mem_reverse])⟩
  obtain ⟨h1, h2⟩ := mem_darts.1 hd
  show (d.2, cyc (R d.2).reverse (cyc (R d.2) d.1)) = (d.2, d.1)
  rw [cyc_back (hS.nd _) (hS.sym h2)]
end Fil
end
section
set_option linter.unusedVariables false
namespace Fil
variable {l : List (Nat × Nat)} {R : Nat → List Nat} {c : List Nat}
def onS (S : List (Nat × Nat)) (d : Nat × Nat) : Prop := d ∈ S ∨ rev d ∈ S
instance (S : List (Nat × Nat)) (d : Nat × Nat) : Decidable (onS S d) := inferInstanceAs (Decidable (_ ∨ _))
theorem pS_on {S : List (Nat × Nat)} {d : Nat × Nat} (h : onS S d) : pS R S d = sg R (rev d) := if_pos h
theorem pS_off {S : List (Nat × Nat)} {d : Nat × Nat} (h : ¬ onS S d) : pS R S d = sg R d := if_neg h
theorem pS_eq {S S' : List (Nat × Nat)} {d : Nat × Nat} (h : onS S d ↔ onS S' d) : pS R S d = pS R S' d := by
  by_cases h1 : onS S d
  · rw [pS_on h1, pS_on (h.1 h1)]
  · rw [pS_off h1, pS_off (fun h2 => h1 (h.2 h2))]
theorem onS_app {S S' : List (Nat × Nat)} {d : Nat × Nat} : onS (S ++ S') d ↔ onS S d ∨ onS S' d := by
  simp only [onS, List.mem_append]
  constructor
  · rintro ((h | h) | h | h) <;> simp [h]
  · rintro ((h | h) | h | h) <;> simp [h]
theorem rev_rev (d : Nat × Nat) : rev (rev d) = d := rfl
theorem onS_rev {S : List (Nat × Nat)} {d : Nat × Nat} : onS S (rev d) ↔ onS S d := by
  simp only [onS, rev_rev]; exact Or.comm
theorem onS_ends {S : List (Nat × Nat)} {d : Nat × Nat} {P : Nat → Nat → Prop} (hs : ∀ u v, P u v → P v u) (h : ∀ e ∈ S, P e.1 e.2) (hd : onS S d) : P d.1 d.2 := by
  rcases hd with hd | hd
  · exact h d hd
  · exact hs _ _ (h _ hd)
/-- a tree in each part -/
theorem trees (hS : Sys l R) : ∀ {Bs : List (List Nat)}, (∀ B ∈ Bs, B ≠ [] ∧ Grow R B) → Bs.flatten.Nodup → (∀ B ∈ Bs, ∀ v ∈ B, R v ≠ []) →
    ∃ T : List (Nat × Nat), T.Nodup ∧ (∀ e ∈ T, e ∈ l ∧ ∃ B ∈ Bs, e.1 ∈ B ∧ e.2 ∈ B) ∧ T.length + Bs.length = Bs.flatten.length ∧ ∀ B ∈ Bs, ∃ big, Dec (pS R T) (dartsOf R B) [big]
  | [], _, _, _ => ⟨[], .nil, by simp, rfl, by simp⟩
  | B :: Bs, hB, hn, hne => by
    rw [List.flatten_cons, List.nodup_append] at hn
    obtain ⟨n1, n2, n3⟩ := hn
    obtain ⟨T, t1, t2, t3, t4⟩ := trees hS (fun C hC => hB C (.tail _ hC)) n2 fun C hC => hne C (.tail _ hC)
    obtain ⟨b1, b2⟩ := hB B (.head _)
    obtain ⟨S, big, hT⟩ := tree_all hS n1 b2 (hne B (.head _)) b1 B.length (List.length_pos_iff.2 b1) (Nat.le_refl _)
    have hdec := hT.dec
    rw [List.drop_length, List.map_nil] at hdec
    have hin := hT.inl
    rw [List.take_length] at hin
    have hap : ∀ C ∈ Bs, ∀ u ∈ C, u ∉ B := fun C hC u hu h => n3 u h u (List.mem_flatten.2 ⟨C, hC, hu⟩) rfl
    refine ⟨S ++ T, List.nodup_append.2 ⟨hT.nd, t1, fun a ha b hb e => ?_⟩, fun e he => ?_, ?_, fun C hC => ?_⟩
    · subst e
      obtain ⟨_, C, hC, h1, _⟩ := t2 a hb
      exact hap C hC _ h1 (hin a ha).2.1
    · rcases List.mem_append.1 he with he | he
      · exact ⟨(hin e he).1, B, .head _, (hin e he).2⟩
      · obtain ⟨h1, C, hC, h2⟩ := t2 e he
        exact ⟨h1, C, .tail _ hC, h2⟩
    · have := hT.len
      simp only [List.length_append, List.flatten_cons, List.length_cons]
      omega
    · rcases List.mem_cons.1 hC with rfl | hC
      · refine ⟨big, hdec.congr fun d hd => pS_eq ?_⟩
        rw [onS_app]
        refine ⟨.inl, fun h => h.elim id fun h => ?_⟩
        exfalso
        have hd1 := (mem_darts.1 hd).1
        rcases h with h | h
        · obtain ⟨_, D, hD, h1, _⟩ := t2 _ h
          exact hap D hD _ h1 hd1
        · obtain ⟨_, D, hD, _, h1⟩ := t2 _ h
          exact hap D hD _ h1 hd1
      · obtain ⟨big, hb⟩ := t4 C hC
        refine ⟨big, hb.congr fun d hd => pS_eq ?_⟩
        rw [onS_app]
        refine ⟨.inr, fun h => h.elim (fun h => ?_) id⟩
        exfalso
        have hd1 := (mem_darts.1 hd).1
        rcases h with h | h
        · exact hap C hC _ hd1 (hin _ h).2.1
        · exact hap C hC _ hd1 (hin _ h).2.2
theorem nodup_flat {α : Type} {C : List (List α)} : C.flatten.Nodup ↔ (∀ l ∈ C, l.Nodup) ∧ C.Pairwise fun a b => ∀ x ∈ a, x ∉ b := by
  rw [List.Nodup, List.pairwise_flatten]
  constructor
  · rintro ⟨h1, h2⟩
    exact ⟨h1, h2.imp fun {a b} h x hx hy => h x hx x hy rfl⟩
  · rintro ⟨h1, h2⟩
    exact ⟨h1, h2.imp fun {a b} h x hx y hy e => h x hx (by rw [e]; exact hy)⟩
theorem dec_none (hS : Sys l R) (hc : c.Nodup) (hne : ∀ v ∈ c, R v ≠ []) : Dec (pS R []) (dartsOf R c) (c.map (vc R)) :=
  ⟨darts_nodup hS hc, fun m hm => by
    obtain ⟨u, hu, rfl⟩ := List.mem_map.1 hm
    exact (vc_cy hS (hne u hu)).congr fun a _ => (pS_nil R a).symm, by rw [dartsOf, List.flatMap_def]⟩
/-- between one part and another one -/
theorem st_flat {β : Nat → Nat} {p : Nat × Nat → Nat × Nat} {Q : Nat × Nat → Prop} (hp : ∀ d, Q d → β (p d).1 = β d.1) : ∀ {m : List (Nat × Nat)} {s t : Nat × Nat}, (∀ d ∈ m, Q d) → st p m s t → (∀ d ∈ m, β d.1 = β s.1) ∧ β t.1 = β s.1
  | [], s, t, _, h => by cases h; simp
  | a :: m, s, t, hm, ⟨h1, h2⟩ => by
    subst h1
    obtain ⟨h3, h4⟩ := st_flat hp (fun d hd => hm d (.tail _ hd)) h2
    have h5 := hp s (hm s (.head _))
    exact ⟨fun d hd => (List.mem_cons.1 hd).elim (fun e => e ▸ rfl) fun hd => (h3 d hd).trans h5, h4.trans h5⟩
theorem first_split {α : Type} {Q : α → Prop} [DecidablePred Q] : ∀ {m : List α}, (∃ a ∈ m, Q a) → ∃ A a B, m = A ++ a :: B ∧ Q a ∧ ∀ x ∈ A, ¬ Q x
  | [], h => by simp at h
  | x :: m, h => by
    by_cases hx : Q x
    · exact ⟨[], x, m, rfl, hx, by simp⟩
    · obtain ⟨A, a, B, rfl, h1, h2⟩ := first_split (m := m) (by
        obtain ⟨a, ha, hq⟩ := h
        rcases List.mem_cons.1 ha with rfl | ha
        · exact absurd hq hx
        · exact ⟨a, ha, hq⟩)
      exact ⟨x :: A, a, B, rfl, h1, fun y hy => (List.mem_cons.1 hy).elim (fun e => e ▸ hx) (h2 y)⟩
theorem three_flat {α : Type} {Q : α → Bool} : ∀ {C : List (List α)}, (∀ f ∈ C, 3 ≤ (f.filter Q).length) → 3 * C.length ≤ (C.flatten.filter Q).length
  | [], _ => by simp
  | f :: C, h => by
    have h1 := three_flat fun g hg => h g (.tail _ hg)
    have h2 := h f (.head _)
    rw [List.flatten_cons, List.filter_append, List.length_append, List.length_cons]
    omega
theorem three_of {α : Type} {Q : α → Bool} {m : List α} {a b d : α} {A B D E : List α} (h : m.Perm (a :: A ++ b :: B ++ d :: D ++ E)) (ha : Q a = true) (hb : Q b = true) (hd : Q d = true) : 3 ≤ (m.filter Q).length := by
  rw [(h.filter Q).length_eq]
  simp only [List.cons_append, List.filter_append, List.filter_cons, ha, hb, hd, if_true, List.length_append, List.length_cons]
  omega
theorem minor_edges (hS : Sys l R) (hc : c.Nodup) (hcl : ∀ v ∈ c, ∀ u ∈ R v, u ∈ c) (hne : ∀ v ∈ c, R v ≠ []) {F : List (List (Nat × Nat))} (hF : Dec (nxt R) (dartsOf R c) F) (hE : F.length + c.length = (l.filter fun e => decide (e.1 ∈ c)).length + 2)
    {Bs : List (List Nat)} (hB : ∀ B ∈ Bs, B ≠ [] ∧ Grow R B) (hp : Bs.flatten.Perm c) {β : Nat → Nat} (hβ : ∀ B ∈ Bs, ∀ u ∈ B, ∀ v ∈ c, (v ∈ B ↔ β v = β u))
    {L : List (Nat × Nat)} (hLn : L.Nodup) (hL : ∀ e ∈ L, e ∈ l ∧ e.1 ∈ c ∧ β e.1 ≠ β e.2) (hsim : ∀ d d', onS L d → onS L d' → β d.1 = β d'.1 → β d.2 = β d'.2 → d = d')
    (hdeg : ∀ v ∈ c, ∃ d d', onS L d ∧ onS L d' ∧ d ≠ d' ∧ β d.1 = β v ∧ β d'.1 = β v) : L.length + 6 ≤ 3 * Bs.length := by
  have hin : ∀ v ∈ c, ∃ B ∈ Bs, v ∈ B := fun v hv => by
    obtain ⟨B, h1, h2⟩ := List.mem_flatten.1 (hp.mem_iff.2 hv)
    exact ⟨B, h1, h2⟩
  have hsub : ∀ B ∈ Bs, ∀ v ∈ B, v ∈ c := fun B hB v hv => hp.mem_iff.1 (List.mem_flatten.2 ⟨B, hB, hv⟩)
  obtain ⟨T, t1, t2, t3, t4⟩ := trees hS hB (hp.nodup_iff.2 hc) fun B hB v hv => hne v (hsub B hB v hv)
  have hT : ∀ e ∈ T, e ∈ l ∧ e.1 ∈ c ∧ β e.1 = β e.2 := fun e he => by
    obtain ⟨h1, B, hB, h2, h3⟩ := t2 e he
    exact ⟨h1, hsub B hB _ h2, (hβ B hB _ h3 _ (hsub B hB _ h2)).1 h2⟩
  have hrevl : ∀ e ∈ l, rev e ∉ l := fun e he h => by
    have h1 := hS.lt _ he
    have h2 := hS.lt _ h
    simp [rev] at h2; omega
  have hLT : ∀ d, onS L d → ¬ onS T d := fun d h1 h2 => by
    have e1 : β d.1 ≠ β d.2 := onS_ends (P := fun u v => β u ≠ β v) (fun _ _ h => Ne.symm h) (fun e he => (hL e he).2.2) h1
    have e2 : β d.1 = β d.2 := onS_ends (P := fun u v => β u = β v) (fun _ _ h => Eq.symm h) (fun e he => (hT e he).2.2) h2
    exact e1 e2
  have hSn : (L ++ T).Nodup := List.nodup_append.2 ⟨hLn, t1, fun a ha b hb e => hLT a (.inl ha) (.inl (e ▸ hb))⟩
  have hSl : ∀ e ∈ L ++ T, e ∈ l ∧ e.1 ∈ c := fun e he => (List.mem_append.1 he).elim (fun h => ⟨(hL e h).1, (hL e h).2.1⟩) fun h => ⟨(hT e h).1, (hT e h).2.1⟩
  obtain ⟨C, g0, hC, _⟩ := rest_all hS hcl (dec_none hS hc hne) (L ++ T) hSn fun e he => ⟨(hSl e he).1, by simp, by simp, (hSl e he).2⟩
  rw [List.append_nil] at hC
  -- as many as there must be
  have hbc : F.length + (L ++ T).length ≤ C.length + (l.filter fun e => decide (e.1 ∈ c)).length := by
    obtain ⟨C', g, h2, h3⟩ := rest_all hS hcl hC (l.filter fun e => decide (e.1 ∈ c) && !decide (e ∈ L ++ T)) (hS.ndl.sublist List.filter_sublist) fun e he => by
      obtain ⟨i1, i2⟩ := List.mem_filter.1 he
      rw [Bool.and_eq_true, decide_eq_true_eq, Bool.not_eq_true', decide_eq_false_iff_not] at i2
      exact ⟨i1, i2.2, fun h => hrevl e i1 (hSl _ h).1, i2.1⟩
    have hlen : (l.filter fun e => decide (e.1 ∈ c) && !decide (e ∈ L ++ T)).length + (L ++ T).length = (l.filter fun e => decide (e.1 ∈ c)).length := by
      have hp : ((l.filter fun e => decide (e.1 ∈ c) && !decide (e ∈ L ++ T)) ++ (L ++ T)).Perm (l.filter fun e => decide (e.1 ∈ c)) := by
        refine perm_of_nodup (List.nodup_append.2 ⟨hS.ndl.sublist List.filter_sublist, hSn, fun a ha b hb e => ?_⟩) (hS.ndl.sublist List.filter_sublist) fun a => ?_
        · subst e
          have := (List.mem_filter.1 ha).2
          rw [Bool.and_eq_true, Bool.not_eq_true', decide_eq_false_iff_not] at this
          exact this.2 hb
        · rw [List.mem_append]
          simp only [List.mem_filter, Bool.and_eq_true, decide_eq_true_eq, Bool.not_eq_true', decide_eq_false_iff_not]
          constructor
          · rintro (h | h)
            · exact ⟨h.1, h.2.1⟩
            · exact hSl a h
          · intro h
            by_cases ha : a ∈ L ++ T
            · exact .inr ha
            · exact .inl ⟨h.1, h.2, ha⟩
      have := hp.length_eq
      rwa [List.length_append] at this
    have hF2 : Dec (nxt R) (dartsOf R c) C' := h2.congr fun d hd => by
      obtain ⟨j1, j2⟩ := mem_darts.1 hd
      rw [pS_on]
      · rfl
      · rcases (hS.ed _ _).1 j2 with h | h
        · by_cases hdS : d ∈ L ++ T
          · exact .inl (List.mem_append.2 (.inr hdS))
          · exact .inl (List.mem_append.2 (.inl (List.mem_filter.2 ⟨h, by simp only [Bool.and_eq_true, decide_eq_true_eq, Bool.not_eq_true', decide_eq_false_iff_not]; exact ⟨j1, hdS⟩⟩)))
        · by_cases hr : rev d ∈ L ++ T
          · exact .inr (List.mem_append.2 (.inr hr))
          · exact .inr (List.mem_append.2 (.inl (List.mem_filter.2 ⟨h, by simp only [Bool.and_eq_true, decide_eq_true_eq, Bool.not_eq_true', decide_eq_false_iff_not]; exact ⟨hcl _ j1 _ j2, hr⟩⟩)))
    have := hF.count hF2
    omega
  -- each has three
  have hstep : ∀ d, ¬ onS L d → β (pS R (L ++ T) d).1 = β d.1 := fun d hd => by
    by_cases h : onS T d
    · rw [pS_on (onS_app.2 (.inr h))]
      exact (onS_ends (P := fun u v => β u = β v) (fun _ _ h => Eq.symm h) (fun e he => (hT e he).2.2) h).symm
    · rw [pS_off fun h2 => (onS_app.1 h2).elim hd h]
      rfl
  have hstepL : ∀ d, onS L d → (pS R (L ++ T) d).1 = d.2 := fun d hd => by
    rw [pS_on (onS_app.2 (.inl hd))]; rfl
  have hLne : ∀ d, onS L d → β d.1 ≠ β d.2 := fun d hd => onS_ends (P := fun u v => β u ≠ β v) (fun _ _ h => Ne.symm h) (fun e he => (hL e he).2.2) hd
  have hLdart : ∀ d, onS L d → d ∈ dartsOf R c := fun d hd => by
    rcases hd with hd | hd
    · exact mem_darts.2 ⟨(hL d hd).2.1, (hS.ed _ _).2 (.inl (hL d hd).1)⟩
    · have h1 := (hS.ed _ _).2 (.inl (hL _ hd).1)
      exact mem_darts.2 ⟨hcl _ (hL _ hd).2.1 _ h1, hS.sym h1⟩
  have hCd : ∀ f ∈ C, ∀ d ∈ f, d ∈ dartsOf R c := fun f hf d hd => hC.perm.mem_iff.1 (List.mem_flatten.2 ⟨f, hf, hd⟩)
  have hthree : ∀ f ∈ C, 3 ≤ (f.filter fun d => decide (onS L d)).length := by
    intro f hf
    have hcy := hC.cy f hf
    have hfn : f.Nodup := by
      have := hC.perm.nodup_iff.2 hC.nd
      exact (nodup_flat.1 this).1 f hf
    by_cases h0 : ∃ d ∈ f, onS L d
    · obtain ⟨d1, hd1, hq1⟩ := h0
      obtain ⟨f1, f2, rfl⟩ := List.append_of_mem hd1
      have h1 := hcy.rot
      rw [List.cons_append, Cy.cons] at h1
      have hperm : (f1 ++ d1 :: f2).Perm (d1 :: (f2 ++ f1)) := by rw [← List.cons_append]; exact List.perm_append_comm
      generalize hA : f2 ++ f1 = A at h1 hperm
      by_cases h2 : ∃ d ∈ A, onS L d
      · obtain ⟨A1, d2, A2, rfl, hq2, hA1⟩ := first_split h2
        obtain ⟨m, s1, s2⟩ := st_app.1 h1
        obtain ⟨rfl, s3⟩ := s2
        by_cases h3 : ∃ d ∈ A2, onS L d
        · obtain ⟨A3, d3, A4, rfl, hq3, _⟩ := first_split h3
          refine three_of (a := d1) (b := m) (d := d3) (A := A1) (B := A3) (D := A4) (E := []) (hperm.trans ?_) (decide_eq_true hq1) (decide_eq_true hq2) (decide_eq_true hq3)
          simp
        · exfalso
          have hA2 : ∀ x ∈ A2, ¬ onS L x := fun x hx hq => h3 ⟨x, hx, hq⟩
          obtain ⟨b1, b2⟩ := st_flat (β := β) hstep hA1 s1
          obtain ⟨b3, b4⟩ := st_flat (β := β) hstep hA2 s3
          rw [hstepL _ hq1] at b1 b2
          rw [hstepL _ hq2] at b3 b4
          have hm : rev m = d1 := hsim _ _ (onS_rev.2 hq2) hq1 b4.symm b2
          have hm1 : m = rev d1 := by rw [← hm]; rfl
          subst hm1
          -- both parts
          have hd1c := hCd _ hf _ hd1
          have hr1c := hLdart _ hq2
          obtain ⟨B1, hB1, hv1⟩ := hin _ (mem_darts.1 hd1c).1
          obtain ⟨B2, hB2, hv2⟩ := hin _ (mem_darts.1 hr1c).1
          obtain ⟨g1, hg1⟩ := t4 B1 hB1
          obtain ⟨g2, hg2⟩ := t4 B2 hB2
          have hdis : ∀ v ∈ B1, v ∉ B2 := fun v h1 h2 => by
            have e1 := (hβ B1 hB1 _ hv1 v (hsub _ hB1 _ h1)).1 h1
            have e2 := (hβ B2 hB2 _ hv2 v (hsub _ hB2 _ h2)).1 h2
            exact hLne _ hq1 (e1.symm.trans e2)
          have hn12 : (B1 ++ B2).Nodup := List.nodup_append.2 ⟨(nodup_flat.1 (hp.nodup_iff.2 hc)).1 _ hB1, (nodup_flat.1 (hp.nodup_iff.2 hc)).1 _ hB2, fun a ha b hb e => hdis a ha (e ▸ hb)⟩
          have hx1 : d1 ∈ g1 := by
            have := hg1.perm.mem_iff (a := d1)
            rw [List.flatten_cons, List.flatten_nil, List.append_nil] at this
            exact this.2 (mem_darts.2 ⟨hv1, (mem_darts.1 hd1c).2⟩)
          have hx2 : rev d1 ∈ g2 := by
            have := hg2.perm.mem_iff (a := rev d1)
            rw [List.flatten_cons, List.flatten_nil, List.append_nil] at this
            exact this.2 (mem_darts.2 ⟨hv2, (mem_darts.1 hr1c).2⟩)
          obtain ⟨a1, a2, rfl⟩ := List.append_of_mem hx1
          obtain ⟨a3, a4, rfl⟩ := List.append_of_mem hx2
          have hb12 : Dec (pS R T) (dartsOf R (B1 ++ B2)) ((d1 :: (a2 ++ a1)) :: (rev d1 :: (a4 ++ a3)) :: []) := by
            have z1 := hg1.rot
            have z2 := hg2.rot
            refine ⟨darts_nodup hS hn12, fun k hk => ?_, ?_⟩
            · rcases List.mem_cons.1 hk with rfl | hk
              · exact z1.cy _ (.head _)
              · obtain rfl : k = _ := by simpa using hk
                exact z2.cy _ (.head _)
            · have p1 := z1.perm
              have p2 := z2.perm
              rw [List.flatten_cons, List.flatten_nil, List.append_nil] at p1 p2
              rw [List.flatten_cons, List.flatten_cons, List.flatten_nil, List.append_nil, dartsOf, List.flatMap_append]
              exact p1.append p2
          have hmg := hb12.merge
          generalize hX : d1 :: ((a4 ++ a3) ++ rev d1 :: (a2 ++ a1)) = X at hmg
          have hdne : d1.1 ≠ d1.2 := fun e => hLne _ hq1 (congrArg β e)
          have hTn : ¬ onS T d1 := hLT _ hq1
          obtain ⟨e1, he1, heL⟩ : ∃ e1, (e1 = d1 ∨ e1 = rev d1) ∧ e1 ∈ L := by
            rcases hq1 with h | h
            · exact ⟨_, .inl rfl, h⟩
            · exact ⟨_, .inr rfl, h⟩
          have hXdec : Dec (pS R (e1 :: T)) (dartsOf R (B1 ++ B2)) [X] := hmg.congr fun d _ => (pS_cons (R := R) (S := T) (a := d1.1) (b := d1.2) hdne (fun h => hTn (.inl h)) (fun h => hTn (.inr h)) he1 d).symm
          have hon1 : ∀ d, onS (e1 :: T) d ↔ (d = d1 ∨ d = rev d1) ∨ onS T d := fun d => by
            rw [show e1 :: T = [e1] ++ T from rfl, onS_app]
            refine or_congr ?_ Iff.rfl
            simp only [onS, List.mem_singleton]
            rcases he1 with rfl | rfl
            · exact or_congr Iff.rfl ⟨fun h => by rw [← h]; rfl, fun h => by rw [h]; rfl⟩
            · constructor
              · rintro (h | h)
                · exact .inr h
                · exact .inl (by rw [← rev_rev d, h]; rfl)
              · rintro (h | h)
                · exact .inr (by rw [h])
                · exact .inl h
          have hfcy : Cy (pS R (e1 :: T)) (f1 ++ d1 :: f2) := hcy.congr fun d hd => pS_eq (by
            rw [onS_app, hon1]
            refine or_congr ⟨fun h => ?_, fun h => ?_⟩ Iff.rfl
            · rcases List.mem_cons.1 (hperm.mem_iff.1 hd) with rfl | hd
              · exact .inl rfl
              · rcases List.mem_append.1 hd with hd | hd
                · exact absurd h (hA1 _ hd)
                · rcases List.mem_cons.1 hd with rfl | hd
                  · exact .inr rfl
                  · exact absurd h (hA2 _ hd)
            · rcases h with rfl | rfl
              · exact hq1
              · exact hq2)
          have hXc : Cy (pS R (e1 :: T)) X := hXdec.cy X (.head _)
          have hcov := hXc.sub hfcy (a := d1) (by rw [← hX]; exact .head _) hd1
          obtain ⟨d3, h31, h32, h33⟩ : ∃ d3, onS L d3 ∧ d3 ≠ d1 ∧ β d3.1 = β d1.1 := by
            obtain ⟨x, y, h1, h2, h3, h4, h5⟩ := hdeg _ (mem_darts.1 hd1c).1
            by_cases hx : x = d1
            · exact ⟨y, h2, fun h => h3 (hx.trans h.symm), h5⟩
            · exact ⟨x, h1, hx, h4⟩
          have h3c := hLdart _ h31
          have h3X : d3 ∈ X := by
            have := hXdec.perm.mem_iff (a := d3)
            rw [List.flatten_cons, List.flatten_nil, List.append_nil] at this
            refine this.2 (mem_darts.2 ⟨List.mem_append.2 (.inl ((hβ B1 hB1 _ hv1 _ (mem_darts.1 h3c).1).2 h33)), (mem_darts.1 h3c).2⟩)
          have h3f := hcov _ h3X
          rcases List.mem_cons.1 (hperm.mem_iff.1 h3f) with h | hd
          · exact h32 h
          · rcases List.mem_append.1 hd with hd | hd
            · exact hA1 _ hd h31
            · rcases List.mem_cons.1 hd with rfl | hd
              · exact hLne _ hq1 h33.symm
              · exact hA2 _ hd h31
      · exfalso
        have hAn : ∀ x ∈ A, ¬ onS L x := fun x hx hq => h2 ⟨x, hx, hq⟩
        obtain ⟨_, b2⟩ := st_flat (β := β) hstep hAn h1
        rw [hstepL _ hq1] at b2
        exact hLne _ hq1 b2
    · exfalso
      have hfn0 : ∀ x ∈ f, ¬ onS L x := fun x hx hq => h0 ⟨x, hx, hq⟩
      obtain ⟨hf0, s, hst⟩ := hcy
      obtain ⟨b1, _⟩ := st_flat (β := β) hstep hfn0 hst
      obtain ⟨x, f', rfl⟩ := List.exists_cons_of_ne_nil hf0
      obtain ⟨rfl, _⟩ := hst
      have hsc := hCd _ hf s (.head _)
      obtain ⟨B, hBB, hv⟩ := hin _ (mem_darts.1 hsc).1
      obtain ⟨big, hbig⟩ := t4 B hBB
      have hbm : ∀ d, d ∈ big ↔ d ∈ dartsOf R B := fun d => by
        have := hbig.perm.mem_iff (a := d)
        rwa [List.flatten_cons, List.flatten_nil, List.append_nil] at this
      have hfT : Cy (pS R T) (s :: f') := (hC.cy _ hf).congr fun d hd => pS_eq (by
        rw [onS_app]
        exact ⟨fun h => h.elim (fun h => absurd h (hfn0 d hd)) id, .inr⟩)
      have hcov := (hbig.cy big (.head _)).sub hfT (a := s) ((hbm s).2 (mem_darts.2 ⟨hv, (mem_darts.1 hsc).2⟩)) (.head _)
      obtain ⟨d, _, hd, _, _, hd2, _⟩ := hdeg _ (mem_darts.1 hsc).1
      have hdc := hLdart _ hd
      have hdb : d ∈ big := (hbm d).2 (mem_darts.2 ⟨(hβ B hBB _ hv _ (mem_darts.1 hdc).1).2 hd2, (mem_darts.1 hdc).2⟩)
      exact hfn0 d (hcov d hdb) hd
  have hsum := three_flat (Q := fun d => decide (onS L d)) hthree
  have htot : (C.flatten.filter fun d => decide (onS L d)).length ≤ 2 * L.length := by
    have h1 : (C.flatten.filter fun d => decide (onS L d)).length ≤ (L ++ L.map rev).length := sub_length ((hC.perm.nodup_iff.2 hC.nd).sublist List.filter_sublist) fun d hd => by
      have := of_decide_eq_true (List.mem_filter.1 hd).2
      rcases this with h | h
      · exact List.mem_append.2 (.inl h)
      · exact List.mem_append.2 (.inr (List.mem_map.2 ⟨_, h, rev_rev d⟩))
    rw [List.length_append, List.length_map] at h1
    omega
  have hlen := hp.length_eq
  rw [List.length_append] at hbc
  omega
end Fil
end
section
set_option linter.unusedVariables false
namespace Fil
variable {l : List (Nat × Nat)} {R : Nat → List Nat} {c : List Nat}
/-- hangs together -/
def Con (R : Nat → List Nat) (B : List Nat) : Prop := ∀ f : Nat → Bool, (∀ u ∈ B, ∀ v ∈ B, u ∈ R v → f u = f v) → ∀ u ∈ B, ∀ v ∈ B, f u = f v
theorem Con.perm {A B : List Nat} (h : Con R A) (hp : ∀ v, v ∈ A ↔ v ∈ B) : Con R B := fun f hf u hu v hv =>
  h f (fun u hu v hv => hf u ((hp u).1 hu) v ((hp v).1 hv)) u ((hp u).2 hu) v ((hp v).2 hv)
theorem Con.one (u : Nat) : Con R [u] := fun f _ x hx y hy => by
  obtain rfl : x = u := by simpa using hx
  obtain rfl : y = x := by simpa using hy
  rfl
theorem Con.join {A B : List Nat} (hA : Con R A) (hB : Con R B) {x y : Nat} (hx : x ∈ A) (hy : y ∈ B) (h : x ∈ R y) : Con R (A ++ B) := fun f hf => by
  have h1 := hA f fun u hu v hv => hf u (List.mem_append.2 (.inl hu)) v (List.mem_append.2 (.inl hv))
  have h2 := hB f fun u hu v hv => hf u (List.mem_append.2 (.inr hu)) v (List.mem_append.2 (.inr hv))
  have h3 := hf x (List.mem_append.2 (.inl hx)) y (List.mem_append.2 (.inr hy)) h
  have h4 : ∀ u ∈ A ++ B, f u = f x := fun u hu => (List.mem_append.1 hu).elim (fun hu => h1 u hu x hx) fun hu => (h2 u hu y hy).trans h3.symm
  exact fun u hu v hv => (h4 u hu).trans (h4 v hv).symm
theorem grow_con : ∀ {c : List Nat}, Grow R c → Con R c := by
  intro c hg f hf
  have key : ∀ n u : Nat, c[n]? = some u → ∀ z : Nat, c[0]? = some z → f u = f z := by
    intro n
    induction n using Nat.strongRecOn with
    | _ n ih =>
      intro u hu z hz
      by_cases h0 : n = 0
      · subst h0
        rw [hu] at hz
        rw [Option.some.inj hz]
      · obtain ⟨hn, hu'⟩ := List.getElem?_eq_some_iff.1 hu
        have hsp : c = c.take n ++ u :: c.drop (n + 1) := by rw [← hu', List.getElem_cons_drop, List.take_append_drop]
        obtain ⟨v, hv, hw⟩ := hg _ _ _ hsp (by
          intro e
          have := congrArg List.length e
          rw [List.length_take, List.length_nil] at this; omega)
        obtain ⟨i, hi⟩ := List.getElem?_of_mem hv
        rw [List.getElem?_take] at hi
        split at hi
        · rename_i hin
          exact (hf u (List.mem_of_getElem? hu) v (List.mem_of_getElem? hi) hw).trans (ih i hin v hi z hz)
        · simp at hi
  intro u hu v hv
  obtain ⟨i, hi⟩ := List.getElem?_of_mem hu
  obtain ⟨j, hj⟩ := List.getElem?_of_mem hv
  obtain ⟨z, hz⟩ : ∃ z, c[0]? = some z := ⟨_, List.getElem?_eq_getElem (List.length_pos_of_mem hu)⟩
  exact (key i u hi z hz).trans (key j v hj z hz).symm
theorem con_edge {c : List Nat} (h : Con R c) {f : Nat → Bool} {u v : Nat} (hu : u ∈ c) (hv : v ∈ c) (hne : f u ≠ f v) : ∃ x ∈ c, ∃ y ∈ c, x ∈ R y ∧ f x ≠ f y := by
  apply Classical.byContradiction
  intro hno
  refine hne (h f (fun x hx y hy hxy => ?_) u hu v hv)
  apply Classical.byContradiction
  intro h2
  exact hno ⟨x, hx, y, hy, hxy, h2⟩
theorem con_grow (hsym : ∀ u v, u ∈ R v → v ∈ R u) {B : List Nat} (h : Con R B) (hn : B.Nodup) : ∃ B', B'.Perm B ∧ Grow R B' := by
  have key : ∀ k, k ≤ B.length → ∃ A : List Nat, A.length = k ∧ A.Nodup ∧ (∀ v ∈ A, v ∈ B) ∧ Grow R A := by
    intro k
    induction k with
    | zero => exact fun _ => ⟨[], rfl, .nil, by simp, fun A w B h => by simp at h⟩
    | succ k ih =>
      intro hk
      obtain ⟨A, h1, h2, h3, h4⟩ := ih (by omega)
      obtain ⟨w, hw, hwA⟩ : ∃ w ∈ B, w ∉ A := by
        apply Classical.byContradiction
        intro hno
        have := sub_length hn fun a ha => Classical.byContradiction fun h => hno ⟨a, ha, h⟩
        omega
      by_cases hA : A = []
      · subst hA
        simp at h1
        subst h1
        refine ⟨[w], rfl, by simp, by simpa using hw, fun A' w' B' e hne => ?_⟩
        cases A' with
        | nil => exact absurd rfl hne
        | cons a A' => simp at e
      · obtain ⟨a, ha⟩ := List.exists_mem_of_ne_nil A hA
        obtain ⟨x, hx, y, hy, hxy, hf⟩ := con_edge h (f := fun v => decide (v ∈ A)) (h3 a ha) hw (by simp [ha, hwA])
        have : ∃ v ∈ A, ∃ w ∈ B, w ∉ A ∧ w ∈ R v := by
          by_cases hxA : x ∈ A
          · refine ⟨x, hxA, y, hy, fun hyA => hf (by simp [hxA, hyA]), hsym _ _ hxy⟩
          · have hyA : y ∈ A := Classical.byContradiction fun hyA => hf (by simp [hxA, hyA])
            exact ⟨y, hyA, x, hx, hxA, hxy⟩
        obtain ⟨v, hv, w, hw, hwA, hwv⟩ := this
        refine ⟨A ++ [w], by simp [h1], List.nodup_append.2 ⟨h2, by simp, fun a ha b hb e => ?_⟩, fun z hz => ?_, fun A' w' B' e hne => ?_⟩
        · obtain rfl : b = w := by simpa using hb
          exact hwA (e ▸ ha)
        · rcases List.mem_append.1 hz with hz | hz
          · exact h3 z hz
          · obtain rfl : z = w := by simpa using hz
            exact hw
        · rcases List.append_eq_append_iff.1 e with ⟨C, e1, e2⟩ | ⟨C, e1, e2⟩
          · cases C with
            | nil =>
              simp at e2 e1
              obtain ⟨rfl, _⟩ := e2
              subst e1
              exact ⟨v, hv, hwv⟩
            | cons z C => simp at e2
          · cases C with
            | nil =>
              simp at e2 e1
              obtain ⟨rfl, _⟩ := e2
              subst e1
              exact ⟨v, hv, hwv⟩
            | cons z C =>
              rw [List.cons_append] at e2
              obtain ⟨rfl, e3⟩ := List.cons.inj e2
              exact h4 A' w' C e1 hne
  obtain ⟨A, h1, h2, h3, h4⟩ := key B.length (Nat.le_refl _)
  exact ⟨A, perm_of_sub h2 h3 (by omega), h4⟩
structure Parts (R : Nat → List Nat) (c us : List Nat) (br : Nat → List Nat) : Prop where
  ne : ∀ u ∈ us, br u ≠ []
  con : ∀ u ∈ us, Con R (br u)
  nd : ∀ u ∈ us, (br u).Nodup
  sub : ∀ u ∈ us, ∀ v ∈ br u, v ∈ c
  dis : ∀ u ∈ us, ∀ w ∈ us, u ≠ w → ∀ v ∈ br u, v ∉ br w
theorem parts_cover (hsym : ∀ u v, u ∈ R v → v ∈ R u) (hc : c.Nodup) (hcon : Con R c) {us : List Nat} (hus : us ≠ []) : ∀ (n : Nat) {br : Nat → List Nat}, Parts R c us br → (c.filter fun v => decide (∀ u ∈ us, v ∉ br u)).length ≤ n →
    ∃ br', Parts R c us br' ∧ (∀ u ∈ us, ∀ v ∈ br u, v ∈ br' u) ∧ ∀ v ∈ c, ∃ u ∈ us, v ∈ br' u := by
  intro n
  induction n with
  | zero =>
    intro br hP hn
    refine ⟨br, hP, fun _ _ _ h => h, fun v hv => Classical.byContradiction fun hno => ?_⟩
    have : v ∈ c.filter fun v => decide (∀ u ∈ us, v ∉ br u) := List.mem_filter.2 ⟨hv, decide_eq_true fun u hu h => hno ⟨u, hu, h⟩⟩
    have := List.length_pos_of_mem this
    omega
  | succ n ih =>
    intro br hP hn
    by_cases hall : ∀ v ∈ c, ∃ u ∈ us, v ∈ br u
    · exact ⟨br, hP, fun _ _ _ h => h, hall⟩
    · obtain ⟨w, hw⟩ : ∃ w, ¬ (w ∈ c → ∃ u ∈ us, w ∈ br u) := Classical.byContradiction fun h => hall fun v => Classical.byContradiction fun h2 => h ⟨v, h2⟩
      have hwc : w ∈ c := Classical.byContradiction fun h => hw fun h2 => absurd h2 h
      have hwn : ¬ ∃ u ∈ us, w ∈ br u := fun h => hw fun _ => h
      obtain ⟨u0, hu0⟩ := List.exists_mem_of_ne_nil us hus
      obtain ⟨a, ha⟩ := List.exists_mem_of_ne_nil _ (hP.ne u0 hu0)
      let f : Nat → Bool := fun v => decide (∃ u ∈ us, v ∈ br u)
      obtain ⟨x, hx, y, hy, hxy, hf⟩ := con_edge hcon (f := f) (hP.sub u0 hu0 a ha) hwc (by
        have e1 : f a = true := decide_eq_true ⟨u0, hu0, ha⟩
        have e2 : f w = false := decide_eq_false hwn
        rw [e1, e2]; decide)
      have : ∃ u ∈ us, ∃ v ∈ br u, ∃ z ∈ c, (¬ ∃ u ∈ us, z ∈ br u) ∧ z ∈ R v := by
        by_cases h1 : ∃ u ∈ us, x ∈ br u
        · have h2 : ¬ ∃ u ∈ us, y ∈ br u := fun h2 => hf (by
            have e1 : f x = true := decide_eq_true h1
            have e2 : f y = true := decide_eq_true h2
            rw [e1, e2])
          obtain ⟨u, hu, hxu⟩ := h1
          exact ⟨u, hu, x, hxu, y, hy, h2, hsym _ _ hxy⟩
        · have h2 : ∃ u ∈ us, y ∈ br u := Classical.byContradiction fun h2 => hf (by
            have e1 : f x = false := decide_eq_false h1
            have e2 : f y = false := decide_eq_false h2
            rw [e1, e2])
          obtain ⟨u, hu, hyu⟩ := h2
          exact ⟨u, hu, y, hyu, x, hx, h1, hxy⟩
      obtain ⟨u1, hu1, v, hv, z, hz, hzn, hzv⟩ := this
      have hzu : ∀ u ∈ us, z ∉ br u := fun u hu h => hzn ⟨u, hu, h⟩
      let br1 : Nat → List Nat := fun u => if u = u1 then z :: br u else br u
      have e1 : br1 u1 = z :: br u1 := if_pos rfl
      have e2 : ∀ u, u ≠ u1 → br1 u = br u := fun u h => if_neg h
      have hm : ∀ u v, v ∈ br1 u ↔ (u = u1 ∧ v = z) ∨ v ∈ br u := fun u v => by
        by_cases h : u = u1
        · subst h; rw [e1, List.mem_cons]; simp
        · rw [e2 u h]; simp [h]
      have hP1 : Parts R c us br1 := by
        refine ⟨fun u hu => ?_, fun u hu => ?_, fun u hu => ?_, fun u hu x hx => ?_, fun u hu w hw huw x hx hx2 => ?_⟩
        · by_cases h : u = u1
          · subst h; rw [e1]; simp
          · rw [e2 u h]; exact hP.ne u hu
        · by_cases h : u = u1
          · subst h; rw [e1]
            exact Con.join (A := [z]) (Con.one z) (hP.con u hu) (.head _) hv hzv
          · rw [e2 u h]; exact hP.con u hu
        · by_cases h : u = u1
          · subst h; rw [e1]; exact List.nodup_cons.2 ⟨hzu u hu, hP.nd u hu⟩
          · rw [e2 u h]; exact hP.nd u hu
        · rcases (hm u x).1 hx with ⟨_, rfl⟩ | h
          · exact hz
          · exact hP.sub u hu x h
        · rcases (hm u x).1 hx with ⟨rfl, rfl⟩ | h
          · rcases (hm w x).1 hx2 with ⟨rfl, _⟩ | h
            · exact huw rfl
            · exact hzu w hw h
          · rcases (hm w x).1 hx2 with ⟨rfl, rfl⟩ | h2
            · exact hzu u hu h
            · exact hP.dis u hu w hw huw x h h2
      obtain ⟨br', h1, h2, h3⟩ := ih hP1 (by
        have : (c.filter fun v => decide (∀ u ∈ us, v ∉ br1 u)).length + 1 ≤ (c.filter fun v => decide (∀ u ∈ us, v ∉ br u)).length := by
          have hs := sub_length (l := z :: c.filter fun v => decide (∀ u ∈ us, v ∉ br1 u)) (m := c.filter fun v => decide (∀ u ∈ us, v ∉ br u)) (List.nodup_cons.2 ⟨fun h => ?_, hc.sublist List.filter_sublist⟩) fun a ha => ?_
          · simpa using hs
          · have := of_decide_eq_true (List.mem_filter.1 h).2
            exact this u1 hu1 ((hm u1 z).2 (.inl ⟨rfl, rfl⟩))
          · rcases List.mem_cons.1 ha with rfl | ha
            · exact List.mem_filter.2 ⟨hz, decide_eq_true hzu⟩
            · obtain ⟨a1, a2⟩ := List.mem_filter.1 ha
              have a3 := of_decide_eq_true a2
              exact List.mem_filter.2 ⟨a1, decide_eq_true fun u hu h => a3 u hu ((hm u a).2 (.inr h))⟩
        omega)
      exact ⟨br', h1, fun u hu v hv => h2 u hu v ((hm u v).2 (.inr hv)), h3⟩
theorem minor_deg (hS : Sys l R) (hc : c.Nodup) (hcl : ∀ v ∈ c, ∀ u ∈ R v, u ∈ c) (hne : ∀ v ∈ c, R v ≠ []) (hcon : Con R c) {F : List (List (Nat × Nat))} (hF : Dec (nxt R) (dartsOf R c) F) (hE : F.length + c.length = (l.filter fun e => decide (e.1 ∈ c)).length + 2)
    {us : List Nat} {br A : Nat → List Nat} (hun : us.Nodup) (hus : us ≠ []) (hP : Parts R c us br) {d : Nat} (hd2 : 2 ≤ d) (hAn : ∀ u ∈ us, (A u).Nodup) (hAs : ∀ u ∈ us, ∀ w ∈ A u, w ∈ us ∧ w ≠ u ∧ u ∈ A w) (hAd : ∀ u ∈ us, d ≤ (A u).length)
    (hAe : ∀ u ∈ us, ∀ w ∈ A u, ∃ x ∈ br u, ∃ y ∈ br w, y ∈ R x) : d * us.length + 12 ≤ 6 * us.length := by
  have hsym : ∀ u v, u ∈ R v → v ∈ R u := fun u v h => hS.sym h
  obtain ⟨br', hP', hbb, hcov⟩ := parts_cover hsym hc hcon hus _ hP (Nat.le_refl _)
  have hAe' : ∀ u ∈ us, ∀ w ∈ A u, ∃ x ∈ br' u, ∃ y ∈ br' w, y ∈ R x := fun u hu w hw => by
    obtain ⟨x, hx, y, hy, h⟩ := hAe u hu w hw
    exact ⟨x, hbb u hu x hx, y, hbb w (hAs u hu w hw).1 y hy, h⟩
  have hgr : ∀ u, ∃ B : List Nat, u ∈ us → B.Perm (br' u) ∧ Grow R B := fun u => by
    by_cases hu : u ∈ us
    · obtain ⟨B, h⟩ := con_grow hsym (hP'.con u hu) (hP'.nd u hu)
      exact ⟨B, fun _ => h⟩
    · exact ⟨[], fun h => absurd h hu⟩
  let gb : Nat → List Nat := fun u => Classical.choose (hgr u)
  have hgb : ∀ u ∈ us, (gb u).Perm (br' u) ∧ Grow R (gb u) := fun u hu => Classical.choose_spec (hgr u) hu
  let β : Nat → Nat := fun v => (us.find? fun u => decide (v ∈ br' u)).getD 0
  have hβ1 : ∀ u ∈ us, ∀ v ∈ br' u, β v = u := fun u hu v hv => by
    show (us.find? fun u => decide (v ∈ br' u)).getD 0 = u
    cases hf : us.find? fun u => decide (v ∈ br' u) with
    | none =>
      have := List.find?_eq_none.1 hf u hu
      simp [hv] at this
    | some w =>
      have h1 := List.find?_some hf
      have h2 := List.mem_of_find?_eq_some hf
      rw [Option.getD_some]
      apply Classical.byContradiction
      intro hne
      exact hP'.dis w h2 u hu hne v (of_decide_eq_true h1) hv
  have hfl : ∀ v, v ∈ (us.map gb).flatten ↔ ∃ u ∈ us, v ∈ br' u := fun v => by
    rw [List.mem_flatten]
    constructor
    · rintro ⟨B, hB, hv⟩
      obtain ⟨u, hu, rfl⟩ := List.mem_map.1 hB
      exact ⟨u, hu, (hgb u hu).1.mem_iff.1 hv⟩
    · rintro ⟨u, hu, hv⟩
      exact ⟨_, List.mem_map.2 ⟨u, hu, rfl⟩, (hgb u hu).1.mem_iff.2 hv⟩
  have hfn : (us.map gb).flatten.Nodup := by
    rw [nodup_flat]
    refine ⟨fun B hB => ?_, ?_⟩
    · obtain ⟨u, hu, rfl⟩ := List.mem_map.1 hB
      exact (hgb u hu).1.nodup_iff.2 (hP'.nd u hu)
    · rw [List.pairwise_map]
      refine hun.imp_of_mem fun {a b} ha hb hab x hx hy => ?_
      exact hP'.dis a ha b hb hab x ((hgb a ha).1.mem_iff.1 hx) ((hgb b hb).1.mem_iff.1 hy)
  have hperm : (us.map gb).flatten.Perm c := perm_of_nodup hfn hc fun v => (hfl v).trans ⟨fun ⟨u, hu, hv⟩ => hP'.sub u hu v hv, hcov v⟩
  -- pairs, each in one way
  let D : List (Nat × Nat) := us.flatMap fun u => (A u).map fun w => (u, w)
  have hD : ∀ p, p ∈ D ↔ p.1 ∈ us ∧ p.2 ∈ A p.1 := fun p => by
    rw [List.mem_flatMap]
    constructor
    · rintro ⟨u, hu, h⟩
      obtain ⟨w, hw, rfl⟩ := List.mem_map.1 h
      exact ⟨hu, hw⟩
    · rintro ⟨h1, h2⟩
      exact ⟨p.1, h1, List.mem_map.2 ⟨p.2, h2, rfl⟩⟩
  have hDn : D.Nodup := by
    show (us.flatMap fun u => (A u).map fun w => (u, w)).Nodup
    rw [List.flatMap_def, nodup_flat]
    refine ⟨fun B hB => ?_, ?_⟩
    · obtain ⟨u, hu, rfl⟩ := List.mem_map.1 hB
      rw [List.Nodup, List.pairwise_map]
      exact (hAn u hu).imp fun {a b} h e => h (Prod.mk.inj e).2
    · rw [List.pairwise_map]
      refine hun.imp_of_mem fun {a b} ha hb hab x hx hy => ?_
      obtain ⟨_, _, rfl⟩ := List.mem_map.1 hx
      obtain ⟨_, _, e⟩ := List.mem_map.1 hy
      exact hab (Prod.mk.inj e).1.symm
  have hDl : d * us.length ≤ D.length := by
    have : ∀ l : List Nat, (∀ u ∈ l, d ≤ (A u).length) → d * l.length ≤ (l.flatMap fun u => (A u).map fun w => (u, w)).length := by
      intro l
      induction l with
      | nil => simp
      | cons a l ih =>
        intro h
        have h1 := ih fun u hu => h u (.tail _ hu)
        have h2 := h a (.head _)
        rw [List.flatMap_cons, List.length_append, List.length_map, List.length_cons, Nat.mul_succ]
        omega
    exact this us hAd
  let ps := D.filter fun p => decide (p.1 < p.2)
  have hps : ∀ p, p ∈ ps ↔ p ∈ D ∧ p.1 < p.2 := fun p => by
    show p ∈ D.filter _ ↔ _
    rw [List.mem_filter, decide_eq_true_eq]
  have hDs : ∀ p ∈ D, p.2 ≠ p.1 ∧ (p.2, p.1) ∈ D := fun p hp => by
    obtain ⟨h1, h2⟩ := (hD p).1 hp
    obtain ⟨h3, h4, h5⟩ := hAs _ h1 _ h2
    exact ⟨h4, (hD _).2 ⟨h3, h5⟩⟩
  have hpsl : D.length ≤ 2 * ps.length := by
    have h1 := sub_length (m := ps ++ ps.map rev) hDn fun p hp => by
      obtain ⟨h1, h2⟩ := hDs p hp
      rcases Nat.lt_trichotomy p.1 p.2 with h | h | h
      · exact List.mem_append.2 (.inl ((hps p).2 ⟨hp, h⟩))
      · exact absurd h.symm h1
      · exact List.mem_append.2 (.inr (List.mem_map.2 ⟨(p.2, p.1), (hps _).2 ⟨h2, h⟩, rfl⟩))
    rw [List.length_append, List.length_map] at h1
    omega
  -- an edge for each
  have hpk : ∀ p : Nat × Nat, ∃ e : Nat × Nat, p ∈ ps → e.1 ∈ br' p.1 ∧ e.2 ∈ br' p.2 ∧ e.2 ∈ R e.1 := fun p => by
    by_cases hp : p ∈ ps
    · obtain ⟨h1, h2⟩ := (hD p).1 ((hps p).1 hp).1
      obtain ⟨x, hx, y, hy, h⟩ := hAe' _ h1 _ h2
      exact ⟨(x, y), fun _ => ⟨hx, hy, h⟩⟩
    · exact ⟨(0, 0), fun h => absurd h hp⟩
  let pk : Nat × Nat → Nat × Nat := fun p => Classical.choose (hpk p)
  have hpk1 : ∀ p ∈ ps, (pk p).1 ∈ br' p.1 ∧ (pk p).2 ∈ br' p.2 ∧ (pk p).2 ∈ R (pk p).1 := fun p hp => Classical.choose_spec (hpk p) hp
  have hus2 : ∀ p ∈ ps, p.1 ∈ us ∧ p.2 ∈ us ∧ p.1 < p.2 := fun p hp => by
    obtain ⟨h1, h2⟩ := (hps p).1 hp
    exact ⟨((hD p).1 h1).1, (hAs _ ((hD p).1 h1).1 _ ((hD p).1 h1).2).1, h2⟩
  have hβp : ∀ p ∈ ps, β (pk p).1 = p.1 ∧ β (pk p).2 = p.2 := fun p hp =>
    ⟨hβ1 _ (hus2 p hp).1 _ (hpk1 p hp).1, hβ1 _ (hus2 p hp).2.1 _ (hpk1 p hp).2.1⟩
  let ed : Nat × Nat → Nat × Nat := fun p => if pk p ∈ l then pk p else rev (pk p)
  have hed : ∀ p, ed p = pk p ∨ ed p = rev (pk p) := fun p => by
    by_cases h : pk p ∈ l
    · exact .inl (if_pos h)
    · exact .inr (if_neg h)
  have hedl : ∀ p ∈ ps, ed p ∈ l := fun p hp => by
    show (if pk p ∈ l then pk p else rev (pk p)) ∈ l
    split
    · assumption
    · rename_i h
      rcases (hS.ed _ _).1 (hpk1 p hp).2.2 with h2 | h2
      · exact absurd h2 h
      · exact h2
  have hon : ∀ x, onS (ps.map ed) x ↔ ∃ p ∈ ps, x = pk p ∨ x = rev (pk p) := fun x => by
    simp only [onS, List.mem_map]
    constructor
    · rintro (⟨p, hp, h⟩ | ⟨p, hp, h⟩)
      · rcases hed p with h2 | h2
        · exact ⟨p, hp, .inl (h.symm.trans h2)⟩
        · exact ⟨p, hp, .inr (h.symm.trans h2)⟩
      · rcases hed p with h2 | h2
        · exact ⟨p, hp, .inr (by rw [← h2, h]; rfl)⟩
        · exact ⟨p, hp, .inl (by rw [← rev_rev (pk p), ← h2, h]; rfl)⟩
    · rintro ⟨p, hp, h⟩
      rcases hed p with h2 | h2 <;> rcases h with rfl | rfl
      · exact .inl ⟨p, hp, h2⟩
      · exact .inr ⟨p, hp, h2⟩
      · exact .inr ⟨p, hp, h2⟩
      · exact .inl ⟨p, hp, h2⟩
  have hsim : ∀ x y, onS (ps.map ed) x → onS (ps.map ed) y → β x.1 = β y.1 → β x.2 = β y.2 → x = y := fun x y hx hy e1 e2 => by
    obtain ⟨p, hp, hx⟩ := (hon x).1 hx
    obtain ⟨q, hq, hy⟩ := (hon y).1 hy
    obtain ⟨p1, p2⟩ := hβp p hp
    obtain ⟨q1, q2⟩ := hβp q hq
    have l1 := (hus2 p hp).2.2
    have l2 := (hus2 q hq).2.2
    rcases hx with rfl | rfl <;> rcases hy with rfl | rfl <;> (try simp only [rev] at e1 e2)
    · rw [show p = q from Prod.ext (by omega) (by omega)]
    · omega
    · omega
    · rw [show p = q from Prod.ext (by omega) (by omega)]
  have hlen := minor_edges hS hc hcl hne hF hE (Bs := us.map gb) (β := β) (L := ps.map ed) (fun B hB => by
      obtain ⟨u, hu, rfl⟩ := List.mem_map.1 hB
      refine ⟨fun h => hP'.ne u hu ?_, (hgb u hu).2⟩
      have := (hgb u hu).1.length_eq
      rw [h] at this
      exact List.length_eq_zero_iff.1 this.symm) hperm (fun B hB u hu v hv => by
      obtain ⟨w, hw, rfl⟩ := List.mem_map.1 hB
      have hu' := (hgb w hw).1.mem_iff.1 hu
      rw [hβ1 w hw u hu', (hgb w hw).1.mem_iff]
      refine ⟨fun h => hβ1 w hw v h, fun h => ?_⟩
      obtain ⟨z, hz, hvz⟩ := hcov v hv
      rw [hβ1 z hz v hvz] at h
      exact h ▸ hvz) (by
      rw [List.Nodup, List.pairwise_map]
      refine (hDn.sublist List.filter_sublist).imp_of_mem fun {p q} hp hq hne e => hne ?_
      have h1 : onS (ps.map ed) (ed p) := .inl (List.mem_map.2 ⟨p, hp, rfl⟩)
      obtain ⟨p1, p2⟩ := hβp p hp
      obtain ⟨q1, q2⟩ := hβp q hq
      have l1 := (hus2 p hp).2.2
      have l2 := (hus2 q hq).2.2
      rcases hed p with h2 | h2 <;> rcases hed q with h3 | h3 <;> rw [h2, h3] at e
      · rw [e] at p1 p2; exact Prod.ext (by omega) (by omega)
      · have e1 : β (rev (pk q)).1 = p.1 := by rw [← e]; exact p1
        have e3 : β (pk q).2 = p.1 := e1
        have e2 : β (rev (pk q)).2 = p.2 := by rw [← e]; exact p2
        have e4 : β (pk q).1 = p.2 := e2
        omega
      · have e1 : β (rev (pk p)).1 = q.1 := by rw [e]; exact q1
        have e3 : β (pk p).2 = q.1 := e1
        have e2 : β (rev (pk p)).2 = q.2 := by rw [e]; exact q2
        have e4 : β (pk p).1 = q.2 := e2
        omega
      · have e1 : pk p = pk q := by rw [← rev_rev (pk p), e]; rfl
        rw [e1] at p1 p2
        exact Prod.ext (by omega) (by omega)) (fun e he => by
      obtain ⟨p, hp, rfl⟩ := List.mem_map.1 he
      obtain ⟨p1, p2⟩ := hβp p hp
      have l1 := (hus2 p hp).2.2
      refine ⟨hedl p hp, ?_, ?_⟩
      · rcases hed p with h | h <;> rw [h]
        · exact hP'.sub _ (hus2 p hp).1 _ (hpk1 p hp).1
        · exact hP'.sub _ (hus2 p hp).2.1 _ (hpk1 p hp).2.1
      · rcases hed p with h | h <;> rw [h]
        · omega
        · simp only [rev]; omega) hsim (fun v hv => by
      obtain ⟨u, hu, hvu⟩ := hcov v hv
      rw [hβ1 u hu v hvu]
      have h2 : 2 ≤ (A u).length := Nat.le_trans hd2 (hAd u hu)
      have hnd := hAn u hu
      have hw : ∀ w ∈ A u, ∃ x, onS (ps.map ed) x ∧ β x.1 = u ∧ β x.2 = w := fun w hw => by
        obtain ⟨a1, a2, a3⟩ := hAs u hu w hw
        rcases Nat.lt_trichotomy u w with h | h | h
        · have hp : (u, w) ∈ ps := (hps _).2 ⟨(hD _).2 ⟨hu, hw⟩, h⟩
          exact ⟨pk (u, w), (hon _).2 ⟨_, hp, .inl rfl⟩, (hβp _ hp).1, (hβp _ hp).2⟩
        · exact absurd h.symm a2
        · have hp : (w, u) ∈ ps := (hps _).2 ⟨(hD _).2 ⟨a1, a3⟩, h⟩
          exact ⟨rev (pk (w, u)), (hon _).2 ⟨_, hp, .inr rfl⟩, (hβp _ hp).2, (hβp _ hp).1⟩
      match hA : A u, h2, hnd with
      | a :: b :: t, _, hnd =>
        obtain ⟨x, x1, x2, x3⟩ := hw a (by rw [hA]; simp)
        obtain ⟨y, y1, y2, y3⟩ := hw b (by rw [hA]; simp)
        refine ⟨x, y, x1, y1, fun e => ?_, x2, y2⟩
        rw [e, y3] at x3
        simp [x3] at hnd)
  rw [List.length_map, List.length_map] at hlen
  omega
end Fil
end
