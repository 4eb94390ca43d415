/- Of BakerSet: part 7: what the walks rest on, contracts of functions and plain lemmas; no condition but those that each states. -/
import Derived.Test.YtpajjnkmaebhcabGreatBs6
import Derived.ProofKit
import Derived.Deep.Slices
import Derived.Deep.Strs
import Derived.Lib.SmallJoins
import Derived.ChangeSlices
import Derived.SizedLaws
set_option linter.unusedVariables false
set_option linter.unusedSimpArgs false
section
set_option linter.unusedVariables false
namespace Go.Proofs.YtpajjnkmaebhcabGreat
open Go Go.RowKit Go.Sl Fil
def es4 : List E := [(0, 1, 0), (1, 2, 0), (2, 3, 0)]
def R4 : List (List Nat) := [[1], [0, 2], [1, 3], [2]]
theorem right4 : RightG 4 es4 := right_iff.1 (by decide)
theorem rot4 : RotL (4 : Int).toNat (tn es4) R4 where
  len := rfl
  perm v hv := by
    match v, hv with
    | 0, _ => decide
    | 1, _ => decide
    | 2, _ => decide
    | 3, _ => decide
theorem darts4 : dartsAll (4 : Int).toNat (tn es4) = [(0, 1), (1, 0), (1, 2), (2, 1), (2, 3), (3, 2)] := by
  have h : nearS (tn es4) = fun u => (List.range (4 : Int).toNat).filter (fun v => decide (v ∈ rf R4 u)) := funext fun u => (near_filter right4 rot4 u).symm
  rw [dartsAll, h]
  decide
theorem faces4 : facesR (4 : Int).toNat (tn es4) R4 = [[(0, 1), (1, 2), (2, 3), (3, 2), (2, 1), (1, 0)]] := by
  rw [facesR, darts4]
  decide
theorem labs4 {o lab : Nat → Nat} (hL : Lev (4 : Int).toNat (nb (tn es4)) o lab) : (List.range 4).map lab = [0, 0, 0, 0] := by
  have hG : Fil.Good (4 : Int).toNat (tn es4) := right4.good
  have h := ref_labels hG hL
  have h2 : rounds relaxL (tn es4) (4 : Int).toNat (List.range (4 : Int).toNat) = [0, 0, 0, 0] := by decide
  rw [h2] at h
  exact h.symm
theorem lev4 {o lab : Nat → Nat} (hL : Lev (4 : Int).toNat (nb (tn es4)) o lab) : o 1 = 1 ∧ o 3 = 3 := by
  have hG : Fil.Good (4 : Int).toNat (tn es4) := right4.good
  have hlab := labs4 hL
  have hg : ((List.range 4).map fun v => if lab v ≠ v then 4 else 0) = [0, 4, 4, 4] := by
    have h : lab 0 = 0 ∧ lab 1 = 0 ∧ lab 2 = 0 ∧ lab 3 = 0 := by simpa [List.range_succ] using hlab
    simp [List.range_succ, h]
  have ho : (List.range 4).map o = [0, 1, 2, 3] := by
    have hrl : rounds relaxO (tn es4) 4 ((List.range 4).map fun v => if lab v ≠ v then 4 else 0) = (List.range 4).map o := ref_levels hG hL
    rw [← hrl, hg]; decide
  have h : o 0 = 0 ∧ o 1 = 1 ∧ o 2 = 2 ∧ o 3 = 3 := by simpa [List.range_succ] using ho
  exact ⟨h.2.1, h.2.2.2⟩
theorem comps4 {o lab : Nat → Nat} (hL : Lev (4 : Int).toNat (nb (tn es4)) o lab) : compsS (4 : Int).toNat lab = [[0, 1, 2, 3]] := by
  have h : lab 0 = 0 ∧ lab 1 = 0 ∧ lab 2 = 0 ∧ lab 3 = 0 := by simpa [List.range_succ] using labs4 hL
  have e : ∀ v, v < 4 → lab v = (fun _ => 0) v := fun v hv => by
    match v, hv with
    | 0, _ => exact h.1
    | 1, _ => exact h.2.1
    | 2, _ => exact h.2.2.1
    | 3, _ => exact h.2.2.2
  exact (compsS_congr (N := 4) e).trans (by decide)
theorem plane4 {o lab : Nat → Nat} (hL : Lev (4 : Int).toNat (nb (tn es4)) o lab) : planeR (4 : Int).toNat (tn es4) lab R4 = 0 := by
  rw [planeR, eulerL, comps4 hL, faces4]; decide
theorem set4 {o lab : Nat → Nat} (hL : Lev (4 : Int).toNat (nb (tn es4)) o lab) {l : List Nat} (h : SetP (nearS (tn es4)) (4 : Int).toNat (1 : Int).toNat o ((1 : Int).toNat + 1) l) : l.length = 2 := by
  obtain ⟨o1, o3⟩ := lev4 hL
  have h1 : l.length ≤ val (nb (tn es4)) [0, 1, 2, 3] (fun _ => false) := by
    refine val_upper ⟨h.ind.nd, fun u hu v hv => ?_, fun _ _ _ _ => rfl⟩ fun u hu => ?_
    · rw [← mem_nearS]; exact h.ind.no u hu v hv
    · have : u < 4 := h.lt u hu
      have : u = 0 ∨ u = 1 ∨ u = 2 ∨ u = 3 := by omega
      simpa using this
  have h2 : val (nb (tn es4)) [0, 1, 2, 3] (fun _ => false) = 2 := by decide
  have h3 := h.top 0 (by decide) [1, 3] ⟨by decide, fun u hu v hv => by
    rw [mem_nearS]
    have hu : u = 1 ∨ u = 3 := by simpa using hu
    have hv : v = 1 ∨ v = 3 := by simpa using hv
    rcases hu with rfl | rfl <;> rcases hv with rfl | rfl <;> decide, fun _ _ _ _ => rfl⟩ (fun u hu => by
    have hu : u = 1 ∨ u = 3 := by simpa using hu
    rcases hu with rfl | rfl
    · exact ⟨by decide, by rw [keptL_get (by decide)]; simp [o1]⟩
    · exact ⟨by decide, by rw [keptL_get (by decide)]; simp [o3]⟩)
  have h4 : ([1, 3] : List Nat).length = 2 := rfl
  omega
theorem setP_ok {n : Int} {es : List E} (hR : RightG n es) {k m : Nat} {o : Nat → Nat} {l : List Nat} (h : SetP (nearS (tn es)) n.toNat k o m l) : indK n es (l.map fun z : Nat => (z : Int)) = 0 := by
  rw [indK, if_pos (right_iff.2 hR), if_pos ⟨okIn_nat hR.lo h.asc h.lt, indP_nat hR h.ind.no⟩]
set_option maxRecDepth 100000
set_option maxHeartbeats 8000000
set_option linter.unusedVariables false
set_option linter.unusedSimpArgs false
attribute [local irreducible] Code.wp wpList bodyPost wpQuiet Exit.then Exit.inBlock Post wpAnyH wpOp
theorem alive20_ok (w : World) : Calls Tryz.prog 19 #[] w (Post w No (Just (.bool true))) := by
  obtain ⟨o, lab, hL⟩ := lev_ex w right4
  refine enter0 (vs := []) Tryz.func19 rfl Tryz.ntmps19 rfl ?_
  repeat' first
    | refine k_then ?_ | refine c_seq ?_ | refine c_region ?_ | refine s_nil ?_ | refine s_assign (by exact rfl) (by exact rfl) ?_ | fail
  refine o_build [(0, .int .i64 0, [.int .i64 0]), (1, .int .i64 1, [.int .i64 1])] (by exact rfl) (by exact rfl) (by simp [Value.cells]) (by exact rfl) ?_
  refine o_build [(0, .int .i64 1, [.int .i64 1]), (1, .int .i64 2, [.int .i64 2])] (by exact rfl) (by exact rfl) (by simp [Value.cells]) (by exact rfl) ?_
  refine o_build [(0, .int .i64 2, [.int .i64 2]), (1, .int .i64 3, [.int .i64 3])] (by exact rfl) (by exact rfl) (by simp [Value.cells]) (by exact rfl) ?_
  refine o_mk [.agg (eV (0, 1, 0)).toArray, .agg (eV (1, 2, 0)).toArray, .agg (eV (2, 3, 0)).toArray] (by exact rfl) (by exact rfl) rfl ?_ ?_ (by simp) fun v hv => ?_
  · simp [Value.cells, eV]
  · simp
  rw [show ([Value.agg (eV (0, 1, 0)).toArray, .agg (eV (1, 2, 0)).toArray, .agg (eV (2, 3, 0)).toArray].flatMap fun u => u.cells.toList) = esV es4 from rfl]
  refine o_build [(0, .int .i64 4, [.int .i64 4]), (1, v, [v])] (by exact rfl) (by exact rfl) (by
    intro q hq
    simp only [List.mem_cons, List.not_mem_nil, or_false] at hq
    rcases hq with rfl | rfl
    · rfl
    · exact one_cells hv.one) (by exact rfl) ?_
  repeat' first
    | refine o_alloc (by exact rfl) (fun b => ?_) | fail
  refine o_stk_box (i := 0) (us := [.int .i64 4, v]) (by exact rfl) (by exact rfl) (by exact rfl) (by exact rfl) (by exact rfl) (by
    intro u hu
    simp only [List.mem_cons, List.not_mem_nil, or_false] at hu
    rcases hu with rfl | rfl
    · rfl
    · exact hv.one) (by simp [Value.cells]) ?_
  repeat' first
    | refine k_then ?_ | refine c_seq ?_ | refine c_region ?_ | refine s_nil ?_ | refine s_ldk_box (by exact rfl) (by exact rfl) (by exact .head _) (by exact rfl) (by exact rfl) ?_ | fail
  refine o_mk [.int .i64 1] (by exact rfl) (by exact rfl) rfl (by simp [Value.cells]) (by simp) (by simp) fun v0 hv0 => ?_
  refine o_mk [.int .i64 0, .int .i64 2] (by exact rfl) (by exact rfl) rfl (by simp [Value.cells]) (by simp) (by simp) fun v1 hv1 => ?_
  refine o_mk [.int .i64 1, .int .i64 3] (by exact rfl) (by exact rfl) rfl (by simp [Value.cells]) (by simp) (by simp) fun v2 hv2 => ?_
  refine o_mk [.int .i64 2] (by exact rfl) (by exact rfl) rfl (by simp [Value.cells]) (by simp) (by simp) fun v3 hv3 => ?_
  refine o_mk [v0, v1, v2, v3] (by exact rfl) (by exact rfl) rfl ?_ ?_ (by simp) fun vr hvr => ?_
  · intro u hu
    simp only [List.mem_cons, List.not_mem_nil, or_false] at hu
    rcases hu with rfl | rfl | rfl | rfl
    · rw [← Array.length_toList, one_cells hv0.one]; rfl
    · rw [← Array.length_toList, one_cells hv1.one]; rfl
    · rw [← Array.length_toList, one_cells hv2.one]; rfl
    · rw [← Array.length_toList, one_cells hv3.one]; rfl
  · simp
  rw [show ([v0, v1, v2, v3].flatMap fun u => u.cells.toList) = [v0, v1, v2, v3] from by simp [one_cells hv0.one, one_cells hv1.one, one_cells hv2.one, one_cells hv3.one]]
  skip
  refine c_star0 ?_
  refine c_pick [5, 0, 0, 0, 0, 0, 0, 0] (by exact rfl) ?_
  refine c_pushk 0 (by exact rfl) ?_
  refine c_pick [4, 0, 0, 0, 0, 0, 0] (by exact rfl) ?_
  refine c_pushk 0 (by exact rfl) ?_
  refine c_pick [3, 0, 0, 0, 0, 0] (by exact rfl) ?_
  refine c_pushk 0 (by exact rfl) ?_
  refine c_pick [2, 0, 0, 0, 0] (by exact rfl) ?_
  refine c_pushk 0 (by exact rfl) ?_
  have hros : ∀ {L : List HP} {w1 : World}, rowHP vr 28 1 4 [v0, v1, v2, v3] ∈ L → starHP (kids rowN [v0, v1, v2, v3] R4) ∈ L → St w No L w1 → ROs w1 No vr [v0, v1, v2, v3] R4 := fun h1 h2 h => ros_own h h1 rfl h2
  have hpl := plane4 hL
  refine o_call (vs := [.agg #[.int .i64 4, v], vr, .int .i64 1]) (by exact rfl) (by exact rfl) (fun w h => Set_ok 4 v vr es4 1 o lab w hv (ro_own h (by exact .tail _ (.tail _ (.tail _ (.head _))))) right4 hL (hpl ▸ planeIs_ok hv (ro_own h (by exact .tail _ (.tail _ (.tail _ (.head _))))) right4 (hros (by exact .tail _ (.head _)) (by exact .head _) h) rot4 hL) (by omega) (by omega)) ?_
  rintro _ _ ⟨vo, l, rfl, rfl, hS⟩
  have hl2 := set4 hL hS
  have hok := setP_ok right4 hS
  have hen : enoughB 4 es4 (l.map fun z : Nat => (z : Int)) 2 1 = true := decide_eq_true (by rw [List.length_map, hl2]; exact ⟨by omega, by omega, by omega, by omega, hok, by omega⟩)
  have hen2 : enoughB 4 es4 [0, 1] 2 1 = false := by decide
  refine know_row (v := vo) (.head _) fun hvo _ => ?_
  repeat' first
    | refine k_then ?_ | refine c_seq ?_ | refine c_region ?_ | refine s_nil ?_ | refine s_move (by exact rfl) (by exact rfl) ?_ | refine s_assign (by exact rfl) (by exact rfl) ?_ | refine s_eql (by exact rfl) (by exact rfl) (by exact rfl) ?_ | refine s_extract (by exact rfl) (by exact rfl) (by exact rfl) ?_ | refine s_pick_t (by exact rfl) (by exact rfl) (by exact rfl) ?_ | (refine g_case (by exact rfl) (by exact rfl) (fun h => ?_) (fun h => ?_) <;> try (exfalso; omega)) | refine w_move (by exact rfl) (by exact rfl) (by exact rfl) (by exact rfl) ?_ | refine w_eql (by exact rfl) (by exact rfl) (by exact rfl) (by exact rfl) (by exact rfl) ?_ | refine w_len (by exact rfl) (by exact rfl) (by exact rfl) (by exact rfl) (by assumption) ?_ | refine w_ldk_box (by exact rfl) (by exact rfl) (by exact rfl) (by exact rfl) (by exact .tail _ (.tail _ (.tail _ (.head _)))) (by exact rfl) (by exact rfl) ?_ | refine g_on (by exact rfl) (by exact rfl) ?_ | fail
  refine s_call (vs := [.agg #[.int .i64 4, v], vo, .int .i64 2, .int .i64 1]) (by exact rfl) (by exact rfl) (fun w h => Enough_ok 4 v vo es4 (l.map fun z : Nat => (z : Int)) 2 1 w hv (ro_own h (by exact .tail _ (.tail _ (.tail _ (.tail _ (.head _)))))) (by decide) (by rw [List.length_map]; exact hvo) (by rw [← nV_iV]; exact ro_own h (.head _)) (by rw [List.length_map, hl2]; omega)) ?_
  rw [hen]
  repeat' first
    | refine s_move (by exact rfl) (by exact rfl) ?_ | refine s_pick_t (by exact rfl) (by exact rfl) (by exact rfl) ?_ | refine w_ldk_box (by exact rfl) (by exact rfl) (by exact rfl) (by exact rfl) (by exact .tail _ (.tail _ (.tail _ (.head _)))) (by exact rfl) (by exact rfl) ?_ | refine g_on (by exact rfl) (by exact rfl) ?_ | fail
  refine o_mk [.int .i64 0, .int .i64 1] (by exact rfl) (by exact rfl) rfl (by simp [Value.cells]) (by simp) (by simp) fun v5 hv5 => ?_
  repeat' first
    | refine g_on (by exact rfl) (by exact rfl) ?_ | fail
  refine s_call (vs := [.agg #[.int .i64 4, v], v5, .int .i64 2, .int .i64 1]) (by exact rfl) (by exact rfl) (fun w h => Enough_ok 4 v v5 es4 [0, 1] 2 1 w hv (ro_own h (by exact .tail _ (.tail _ (.tail _ (.tail _ (.tail _ (.head _))))))) (by decide) hv5 (ro_own h (.head _)) (by simp)) ?_
  rw [hen2]
  repeat' first
    | refine k_then ?_ | refine s_nil ?_ | refine s_assign (by exact rfl) (by exact rfl) ?_ | refine s_pick_t (by exact rfl) (by exact rfl) (by exact rfl) ?_ | refine c_ret ?_ | refine w_not (by exact rfl) (by exact rfl) (by exact rfl) (by exact rfl) ?_ | fail
  refine ret1 [] rfl rfl (by exact rfl) ⟨rfl, rfl⟩
end Go.Proofs.YtpajjnkmaebhcabGreat
end
section
set_option linter.unusedVariables false
namespace Fil
def oldK (kept : List Bool) (v : Nat) : List Nat := (List.range v).filter fun u => kept.getD u false
def toK (N : Nat) (kept : List Bool) (v : Nat) : List Nat := (List.range N).map fun u => if u < v ∧ kept.getD u false = true then (oldK kept u).length else 0
theorem toK_length (N : Nat) (kept : List Bool) (v : Nat) : (toK N kept v).length = N := by simp [toK]
theorem oldK_length (kept : List Bool) (v : Nat) : (oldK kept v).length ≤ v := by
  have := List.length_filter_le (fun u => kept.getD u false) (List.range v)
  rwa [List.length_range] at this
theorem oldK_succ (kept : List Bool) (v : Nat) : oldK kept (v + 1) = oldK kept v ++ (if kept.getD v false = true then [v] else []) := by
  rw [oldK, List.range_succ, List.filter_append, ← oldK]
  congr 1
  simp only [List.filter_cons, List.filter_nil]
theorem toK_set {N : Nat} {kept : List Bool} {v : Nat} (hv : v < N) (h : kept.getD v false = true) : (toK N kept v).set v (oldK kept v).length = toK N kept (v + 1) := by
  apply List.ext_getElem?
  intro i
  rw [List.getElem?_set, toK, toK, List.getElem?_map, List.getElem?_map, List.length_map, List.length_range]
  by_cases hi : v = i
  · subst hi
    rw [if_pos rfl, if_pos hv, List.getElem?_range hv, Option.map_some, if_pos ⟨Nat.lt_succ_self _, h⟩]
  · rw [if_neg hi]
    by_cases hn : i < N
    · rw [List.getElem?_range hn]
      simp only [Option.map_some]
      have : (i < v ∧ kept.getD i false = true) ↔ (i < v + 1 ∧ kept.getD i false = true) := ⟨fun h => ⟨by omega, h.2⟩, fun h => ⟨by omega, h.2⟩⟩
      simp only [this]
    · rw [List.getElem?_eq_none (by simpa using hn)]; rfl
theorem toK_same {N : Nat} {kept : List Bool} {v : Nat} (h : kept.getD v false = false) : toK N kept v = toK N kept (v + 1) := by
  rw [toK, toK]
  apply List.map_congr_left
  intro u _
  have : (u < v ∧ kept.getD u false = true) ↔ (u < v + 1 ∧ kept.getD u false = true) := ⟨fun h => ⟨by omega, h.2⟩, fun h2 => by
    refine ⟨?_, h2.2⟩
    have : u ≠ v := fun e => by rw [e, h] at h2; simp at h2
    omega⟩
  simp only [this]
theorem toK_zero (N : Nat) (kept : List Bool) : toK N kept 0 = List.replicate N 0 := by
  apply List.ext_getElem?
  intro i
  rw [toK, List.getElem?_map, List.getElem?_replicate]
  by_cases h : i < N
  · rw [List.getElem?_range h, if_pos h]; simp
  · rw [List.getElem?_eq_none (by simpa using h), if_neg h]; rfl
theorem mem_oldK {kept : List Bool} {v u : Nat} : u ∈ oldK kept v ↔ u < v ∧ kept.getD u false = true := by
  rw [oldK, List.mem_filter, List.mem_range]
theorem oldK_idx {kept : List Bool} {N u : Nat} (hu : u < N) (h : kept.getD u false = true) : (oldK kept N).idxOf u = (oldK kept u).length := by
  have hs : List.range N = List.range u ++ u :: (List.range N).drop (u + 1) := by
    have h1 : (List.range N).take u = List.range u := by
      rw [List.take_range, Nat.min_eq_left (by omega)]
    have h2 : (List.range N)[u]'(by simpa using hu) = u := by simp
    conv => lhs; rw [← List.take_append_drop u (List.range N), List.drop_eq_getElem_cons (by simpa using hu), h1, h2]
  rw [oldK, hs, List.filter_append, ← oldK, List.filter_cons, if_pos h, List.idxOf_append, if_neg (fun hm => by have := (mem_oldK.1 hm).1; omega), List.idxOf_cons_self, Nat.zero_add]
theorem toK_get {kept : List Bool} {N u : Nat} (hu : u < N) (h : kept.getD u false = true) : (toK N kept N)[u]? = some ((oldK kept N).idxOf u) := by
  rw [toK, List.getElem?_map, List.getElem?_range hu, oldK_idx hu h]
  simp only [Option.map_some, h, hu, and_self, if_true]
theorem oldK_asc (kept : List Bool) (N : Nat) : Asc (oldK kept N) := List.pairwise_lt_range.filter _
theorem inP_old {n : Int} {es : List E} (hR : RightG n es) {kept : List Bool} {e : E} (he : e ∈ es) : inP (oldK kept n.toNat) e = Go.Proofs.YtpajjnkmaebhcabGreat.keepE kept e := by
  obtain ⟨o1, o2, o3, _⟩ := hR.ok e he
  rw [Bool.eq_iff_iff, inP, Go.Proofs.YtpajjnkmaebhcabGreat.keepE]
  simp only [Bool.and_eq_true, decide_eq_true_eq, mem_oldK]
  exact ⟨fun h => ⟨h.1.2, h.2.2⟩, fun h => ⟨⟨by omega, h.1⟩, by omega, h.2⟩⟩
theorem max_ex {n : Int} {es : List E} (hR : RightG n es) : ∃ l, MaxIn (nearS (tn es)) n.toNat (fun _ => true) l := by
  have hnd : (List.range n.toNat).Nodup := List.nodup_range
  refine ⟨pickE (nearS (tn es)) (List.range n.toNat) fun _ => false, pickE_ind (fun u v h => (nearS_lt hR h).2.2.2) (fun v h => (nearS_lt hR h).2.2.1 rfl) _ _ hnd, fun u hu => ⟨List.mem_range.1 ((pickE_sub _ _ _).mem hu), rfl⟩, fun Y hY hm => ?_⟩
  rw [pickE_length]
  exact val_upper hY fun u hu => List.mem_range.2 (hm u hu).1
theorem most_old {n : Int} {es : List E} (hR : RightG n es) {kept : List Bool} {l : List Nat} (hM : MaxIn (nearS (tn es)) n.toNat (fun u => kept.getD u false) l) :
    mostF ((List.range (oldK kept n.toNat).length).map (nearS (tn (renL (oldK kept n.toNat) es)))) (oldK kept n.toNat).length 0 [] = l.length := by
  have hol := oldK_length kept n.toNat
  have hhi := hR.hi
  have hG := renL_right hR (oldK_asc kept n.toNat) (by omega)
  obtain ⟨l', hl'⟩ := max_ex hG
  have h1 := hl'.most hG
  rw [Int.toNat_natCast] at h1 hl'
  rw [h1]
  have h2 := (renL_max hR (oldK_asc kept n.toNat) (by omega) (fun u hu => (mem_oldK.1 hu).1) hl').congr (k' := fun u => kept.getD u false) fun u hu => by
    rw [Bool.eq_iff_iff, decide_eq_true_eq, mem_oldK]
    exact ⟨fun h => h.2, fun h => ⟨hu, h⟩⟩
  have h3 := hM.top _ h2.ind h2.mem
  have h4 := h2.top _ hM.ind hM.mem
  rw [List.length_map] at h3 h4
  omega
end Fil
namespace Go.Proofs.YtpajjnkmaebhcabGreat
open Go Go.RowKit Go.Sl Fil
set_option maxRecDepth 100000
set_option maxHeartbeats 8000000
set_option linter.unusedVariables false
set_option linter.unusedSimpArgs false
attribute [local irreducible] Code.wp wpList bodyPost wpQuiet Exit.then Exit.inBlock Post wpAnyH wpOp
theorem refKept20_ok (n : Int) (v : Value) (es : List E) (k s : Int) (o lab : Nat → Nat) (w : World) (hs : Shp v es.length) (hr : RO w No v (esV es)) (hR : RightG n es) (hLev : Lev n.toNat (nb (tn es)) o lab) (hk : 1 ≤ k ∧ k ≤ 8 ∧ 0 ≤ s ∧ s ≤ k) :
    Calls Tryz.prog 49 #[.agg #[.int .i64 n, v], .int .i64 k, .int .i64 s] w (Post w No fun r L' => ∃ ve vo : Value, r = .tuple #[.agg #[.int .i64 ((oldK (keptL n.toNat k.toNat s.toNat o) n.toNat).length : Int), ve], vo] ∧ L' = [rowHP ve 37 3 (renL (oldK (keptL n.toNat k.toNat s.toNat o) n.toNat) es).length (esV (renL (oldK (keptL n.toNat k.toNat s.toNat o) n.toNat) es)), rowHP vo 3 1 (oldK (keptL n.toNat k.toNat s.toNat o) n.toNat).length (nV (oldK (keptL n.toNat k.toNat s.toNat o) n.toNat))]) := by
  have hlo := hR.lo
  have hhi := hR.hi
  have hmany := hR.many
  have hkl : (keptL n.toNat k.toNat s.toNat o).length = n.toNat := by simp [keptL]
  refine enter0 (vs := [_, _, _]) Tryz.func49 rfl Tryz.ntmps49 rfl ?_
  repeat' first
    | refine k_then ?_ | refine c_seq ?_ | refine c_region ?_ | refine s_nil ?_ | refine s_move (by exact rfl) (by exact rfl) ?_ | refine s_assign (by exact rfl) (by exact rfl) ?_ | refine s_ldk_box (by exact rfl) (by exact rfl) (by exact .tail _ (.head _)) (by exact rfl) (by exact rfl) ?_ | refine o_box (by exact rfl) (by exact rfl) (fun b => ?_) | refine o_alloc (by exact rfl) (fun b => ?_) | fail
  rename_i bg
  revert b; intro b6
  refine o_call (by exact rfl) (by exact rfl) (fun w h => refKept_ok n v es k s o lab w hs (ro_old h hr) hR hLev hk) ?_
  rintro vk _ rfl
  refine know_row (v := vk) (.head _) fun hvk _ => ?_
  generalize hkd : keptL n.toNat k.toNat s.toNat o = kept at *
  repeat' first
    | refine k_then ?_ | refine c_seq ?_ | refine c_region ?_ | refine s_nil ?_ | refine s_assign (by exact rfl) (by exact rfl) ?_ | refine s_fa (by exact rfl) (by exact rfl) ?_ | refine s_ld_box (by exact rfl) (by exact rfl) (by exact .tail _ (.tail _ (.head _))) (by exact rfl) ?_ | fail
  refine o_make (by exact rfl) (by exact rfl) (by exact rfl) (by omega) (by omega) fun vt hvt => ?_
  repeat' first
    | refine k_then ?_ | refine c_seq ?_ | refine c_region ?_ | refine s_nil ?_ | refine s_assign (by exact rfl) (by exact rfl) ?_ | refine c_block ?_ | fail
  refine c_nil 3 1 ?_
  refine c_loop (fun x : Nat × Value => x.1 ≤ n.toNat) (fun x => [(3, .pointer (some ⟨bg, 0, none⟩)), (6, .pointer (some ⟨b6, 0, none⟩)), (7, .slice none 0 0), (8, vk), (9, vt), (10, x.2), (11, .int .i64 (x.1 : Int))])
    (fun x => [rowHP x.2 3 1 (oldK kept x.1).length (nV (oldK kept x.1)), rowHP vt 3 1 n.toNat (nV (toK n.toNat kept x.1)), rowHP vk 4 1 n.toNat (bV kept), boxHP b6 24 [.int .i64 0, .slice none 0 0], boxHP bg 24 [.int .i64 n, v]]) (fun x => n.toNat - x.1) (0, .slice none 0 0) [0, 0, 0, 0, 0] (Nat.zero_le _) ?_ ⟨rfl, rfl, rfl, rfl, rfl, rfl, rfl, trivial⟩ ?_
  · have z1 : (madeCells (Value.int .i64 0).cells (n.toNat * 1)).toList = nV (toK n.toNat kept 0) := by rw [made1 rfl, toK_zero]; simp [nV]
    rw [z1]
    exact rfl
  rintro ⟨u, vo⟩ hu
  dsimp only at hu ⊢
  refine know_row (v := vo) (.head _) fun hvo _ => ?_
  have hol := oldK_length kept u
  by_cases hlt : u < n.toNat
  · have hku := bV_get (l := kept) (k := u) (by omega)
    have hos := oldK_succ kept u
    have htl := toK_length n.toNat kept u
    cases hb : kept.getD u false
    · rw [hb] at hku hos
      rw [if_neg (by simp), List.append_nil] at hos
      repeat' first
        | refine k_then ?_ | refine c_seq ?_ | refine c_region ?_ | refine s_nil ?_ | refine s_move (by exact rfl) (by exact rfl) ?_ | refine s_assign (by exact rfl) (by exact rfl) ?_ | refine s_fa (by exact rfl) (by exact rfl) ?_ | refine s_ld_box (by exact rfl) (by exact rfl) (by exact .tail _ (.tail _ (.tail _ (.tail _ (.head _))))) (by exact rfl) ?_ | refine s_lss (by exact rfl) (by exact rfl) (by exact rfl) ?_ | refine s_add (by exact rfl) (by exact rfl) (by exact rfl) (by omega) ?_ | refine s_idx (by exact rfl) (by exact rfl) (by exact rfl) (by assumption) (by first | assumption | omega) ?_ | refine s_ld_row (by exact rfl) (by exact rfl) (by exact .tail _ (.tail _ (.head _))) (by assumption) ?_ | refine c_block ?_ | refine c_skip ?_ | refine k_blk ?_ | (refine c_cond_p (by exact rfl) (fun h => ?_) (fun h => ?_) <;> try (exfalso; omega)) | refine c_cond_f (by exact rfl) ?_ | fail
      refine c_round (u + 1, vo) [0, 0, 0, 0, 0] (by dsimp only; rw [hos, ← toK_same hb]; exact rfl) ⟨rfl, rfl, rfl, rfl, rfl, rfl, rfl, trivial⟩ (by dsimp only; omega) (by dsimp only; omega)
    · rw [hb] at hku hos
      rw [if_pos rfl] at hos
      repeat' first
        | refine k_then ?_ | refine c_seq ?_ | refine c_region ?_ | refine s_nil ?_ | refine s_move (by exact rfl) (by exact rfl) ?_ | refine s_fa (by exact rfl) (by exact rfl) ?_ | refine s_ld_box (by exact rfl) (by exact rfl) (by exact .tail _ (.tail _ (.tail _ (.tail _ (.head _))))) (by exact rfl) ?_ | refine s_lss (by exact rfl) (by exact rfl) (by exact rfl) ?_ | refine s_len (by exact rfl) (by exact rfl) (by assumption) ?_ | refine s_idx (by exact rfl) (by exact rfl) (by exact rfl) (by assumption) (by first | assumption | omega) ?_ | refine s_ld_row (by exact rfl) (by exact rfl) (by exact .tail _ (.tail _ (.head _))) (by assumption) ?_ | refine c_block ?_ | refine c_skip ?_ | (refine c_cond_p (by exact rfl) (fun h => ?_) (fun h => ?_) <;> try (exfalso; omega)) | refine c_cond_t (by exact rfl) ?_ | fail
      refine o_st_row (i := 1) (by exact rfl) (by exact rfl) (by exact rfl) rfl (by omega) ?_
      rw [nV_set, toK_set hlt hb]
      repeat' first
        | refine k_then ?_ | refine c_region ?_ | refine s_nil ?_ | refine s_move (by exact rfl) (by exact rfl) ?_ | fail
      refine o_mk [.int .i64 (u : Int)] (by exact rfl) (by exact rfl) rfl (by simp [Value.cells]) (by simp) (by simp) fun v2 hv2 => ?_
      refine o_append_row (bytes := 8) (i := 1) (by exact rfl) (by exact rfl) (by exact rfl) (by exact rfl) (.head _) (by simp [Value.cells]) (by simp [Value.cells, Value.oneCell']) (by omega) fun v3 hv3 => ?_
      repeat' first
        | refine k_then ?_ | refine c_region ?_ | refine s_nil ?_ | refine s_move (by exact rfl) (by exact rfl) ?_ | refine s_assign (by exact rfl) (by exact rfl) ?_ | refine s_add (by exact rfl) (by exact rfl) (by exact rfl) (by omega) ?_ | refine k_blk ?_ | fail
      refine c_round (u + 1, v3) [1, 1, 1, 1, 1] ?_ ⟨rfl, rfl, rfl, rfl, rfl, rfl, rfl, trivial⟩ (by dsimp only; omega) (by dsimp only; omega)
      dsimp only
      rw [hos, show nV (oldK kept u ++ [u]) = nV (oldK kept u) ++ [.int .i64 (u : Int)] by simp [nV], List.length_append]
      exact rfl
  obtain rfl : u = n.toNat := by omega
  repeat' first
    | refine k_then ?_ | refine c_seq ?_ | refine c_region ?_ | refine s_nil ?_ | refine s_move (by exact rfl) (by exact rfl) ?_ | refine s_fa (by exact rfl) (by exact rfl) ?_ | refine s_ld_box (by exact rfl) (by exact rfl) (by exact .tail _ (.tail _ (.tail _ (.tail _ (.head _))))) (by exact rfl) ?_ | refine s_lss (by exact rfl) (by exact rfl) (by exact rfl) ?_ | refine s_len (by exact rfl) (by exact rfl) (by assumption) ?_ | refine c_exit ?_ | refine k_then_exit ?_ | refine k_blk_eq ?_ | (refine c_cond_p (by exact rfl) (fun h => ?_) (fun h => ?_) <;> try (exfalso; omega)) | fail
  refine o_build (cs := [.int .i64 ((oldK kept n.toNat).length : Int), .slice none 0 0]) [(0, .int .i64 ((oldK kept n.toNat).length : Int), [.int .i64 ((oldK kept n.toNat).length : Int)])] (by exact rfl) (by exact rfl) (by simp [Value.cells]) (by exact rfl) ?_
  repeat' first
    | refine o_alloc (by exact rfl) (fun b => ?_) | fail
  revert b; intro bh
  refine o_stk_box (i := 0) (us := [.int .i64 ((oldK kept n.toNat).length : Int), .slice none 0 0]) (by exact rfl) (by exact rfl) (by exact rfl) (by exact rfl) (by exact rfl) (by simp [Value.oneCell']) (by simp [Value.cells]) ?_
  repeat' first
    | refine k_then ?_ | refine c_seq ?_ | refine c_region ?_ | refine s_nil ?_ | refine s_assign (by exact rfl) (by exact rfl) ?_ | refine c_block ?_ | fail
  refine c_nil 37 3 ?_
  refine c_loop (fun x : Nat × Value => x.1 ≤ es.length) (fun x => [(3, .pointer (some ⟨bg, 0, none⟩)), (6, .pointer (some ⟨b6, 0, none⟩)), (8, vk), (9, vt), (10, vo), (12, .pointer (some ⟨bh, 0, none⟩)), (13, .int .i64 (x.1 : Int))])
    (fun x => [rowHP x.2 37 3 (renL (oldK kept n.toNat) (es.take x.1)).length (esV (renL (oldK kept n.toNat) (es.take x.1))), boxHP bh 24 [.int .i64 ((oldK kept n.toNat).length : Int), x.2], rowHP vo 3 1 (oldK kept n.toNat).length (nV (oldK kept n.toNat)), rowHP vt 3 1 n.toNat (nV (toK n.toNat kept n.toNat)), rowHP vk 4 1 n.toNat (bV kept), boxHP b6 24 [.int .i64 0, .slice none 0 0], boxHP bg 24 [.int .i64 n, v]]) (fun x => es.length - x.1) (0, .slice none 0 0) [0, 0, 0, 0, 0, 0, 0] (Nat.zero_le _) (by exact rfl) ⟨rfl, rfl, rfl, rfl, rfl, rfl, rfl, trivial⟩ ?_
  rintro ⟨i, ve⟩ hi
  dsimp only at hi ⊢
  refine know_row (v := ve) (.head _) fun hve _ => ?_
  by_cases hlt2 : i < es.length
  · obtain ⟨e, he⟩ : ∃ e, es[i]? = some e := ⟨_, List.getElem?_eq_getElem hlt2⟩
    have hem := List.mem_of_getElem? he
    obtain ⟨q1, q2, q3, q4, _⟩ := hR.ok e hem
    have hE := esV_at he
    have hsn := renL_snoc (p := oldK kept n.toNat) he
    rw [inP_old hR hem] at hsn
    have hrl : (renL (oldK kept n.toNat) (es.take i)).length ≤ i := by
      have := renL_length (oldK kept n.toNat) (es.take i)
      rw [List.length_take] at this; omega
    have hku := bV_get (l := kept) (k := e.1.toNat) (by omega)
    have hkv := bV_get (l := kept) (k := e.2.1.toNat) (by omega)
    repeat' first
      | refine k_then ?_ | refine c_seq ?_ | refine c_region ?_ | refine s_nil ?_ | refine s_move (by exact rfl) (by exact rfl) ?_ | refine s_fa (by exact rfl) (by exact rfl) ?_ | refine s_ld_box (by exact rfl) (by exact rfl) (by exact .tail _ (.tail _ (.tail _ (.tail _ (.tail _ (.tail _ (.head _))))))) (by exact rfl) ?_ | refine s_lss (by exact rfl) (by exact rfl) (by exact rfl) ?_ | refine s_len (by exact rfl) (by exact rfl) (by assumption) ?_ | refine s_idx (by exact rfl) (by exact rfl) (by exact rfl) (by assumption) (by first | assumption | omega) ?_ | refine s_ldk_ro (by exact rfl) (by exact rfl) (by assumption) (by decide) (by assumption) (by exact rfl) ?_ | refine o_alloc (by exact rfl) (fun b => ?_) | refine c_block ?_ | refine c_skip ?_ | (refine c_cond_p (by exact rfl) (fun h => ?_) (fun h => ?_) <;> try (exfalso; omega)) | fail
    refine o_stk_box (i := 0) (us := eV e) (by exact rfl) (by exact rfl) (by exact rfl) (by exact rfl) (by exact rfl) (by simp [eV, Value.oneCell']) (by simp [Value.cells]) ?_
    cases hb1 : kept.getD e.1.toNat false
    · rw [hb1] at hku
      rw [show keepE kept e = false from by simp only [keepE, hb1, Bool.false_and], if_neg (by simp), List.append_nil] at hsn
      repeat' first
        | refine k_then ?_ | refine c_seq ?_ | refine c_region ?_ | refine s_nil ?_ | refine s_move (by exact rfl) (by exact rfl) ?_ | refine s_assign (by exact rfl) (by exact rfl) ?_ | refine s_fa (by exact rfl) (by exact rfl) ?_ | refine s_ld_box (by exact rfl) (by exact rfl) (by exact .head _) (by exact rfl) ?_ | refine s_add (by exact rfl) (by exact rfl) (by exact rfl) (by omega) ?_ | refine s_idxi (by exact rfl) (by exact rfl) (by exact rfl) (by assumption) (by first | assumption | omega) ?_ | refine s_pick_f (by exact rfl) (by exact rfl) (by exact rfl) ?_ | refine s_ld_row (by exact rfl) (by exact rfl) (by exact .tail _ (.tail _ (.tail _ (.tail _ (.tail _ (.head _)))))) (by assumption) ?_ | refine c_skip ?_ | refine k_blk ?_ | refine c_cond_f (by exact rfl) ?_ | refine g_skip (by exact rfl) (by exact rfl) (by exact rfl) (by exact rfl) ?_ | fail
      refine c_round (i + 1, ve) [1, 1, 1, 1, 1, 1, 1] (by dsimp only; rw [hsn]; rfl) (by exact ⟨rfl, rfl, rfl, rfl, rfl, rfl, rfl, trivial⟩) (by dsimp only; omega) (by dsimp only; omega)
    · rw [hb1] at hku
      cases hb2 : kept.getD e.2.1.toNat false
      · rw [hb2] at hkv
        rw [show keepE kept e = false from by simp only [keepE, hb1, hb2, Bool.true_and], if_neg (by simp), List.append_nil] at hsn
        repeat' first
          | refine k_then ?_ | refine c_seq ?_ | refine c_region ?_ | refine s_nil ?_ | refine s_move (by exact rfl) (by exact rfl) ?_ | refine s_assign (by exact rfl) (by exact rfl) ?_ | refine s_fa (by exact rfl) (by exact rfl) ?_ | refine s_ld_box (by exact rfl) (by exact rfl) (by exact .head _) (by exact rfl) ?_ | refine s_add (by exact rfl) (by exact rfl) (by exact rfl) (by omega) ?_ | refine s_idxi (by exact rfl) (by exact rfl) (by exact rfl) (by assumption) (by first | assumption | omega) ?_ | refine s_pick_t (by exact rfl) (by exact rfl) (by exact rfl) ?_ | refine s_ld_row (by exact rfl) (by exact rfl) (by exact .tail _ (.tail _ (.tail _ (.tail _ (.tail _ (.head _)))))) (by assumption) ?_ | refine c_skip ?_ | refine k_blk ?_ | refine c_cond_f (by exact rfl) ?_ | refine w_move (by exact rfl) (by exact rfl) (by exact rfl) (by exact rfl) ?_ | refine w_fa (by exact rfl) (by exact rfl) (by exact rfl) (by exact rfl) ?_ | refine w_ld_box (by exact rfl) (by exact rfl) (by exact rfl) (by exact rfl) (by exact .head _) (by exact rfl) ?_ | refine w_idxi (by exact rfl) (by exact rfl) (by exact rfl) (by exact rfl) (by exact rfl) (by assumption) (by first | assumption | omega) ?_ | refine w_ld_row (by exact rfl) (by exact rfl) (by exact rfl) (by exact rfl) (by exact .tail _ (.tail _ (.tail _ (.tail _ (.tail _ (.head _)))))) (by assumption) ?_ | fail
        refine c_round (i + 1, ve) [1, 1, 1, 1, 1, 1, 1] (by dsimp only; rw [hsn]; rfl) (by exact ⟨rfl, rfl, rfl, rfl, rfl, rfl, rfl, trivial⟩) (by dsimp only; omega) (by dsimp only; omega)
      · rw [hb2] at hkv
        rw [show keepE kept e = true from by simp only [keepE, hb1, hb2, Bool.true_and], if_pos rfl] at hsn
        have ht1 : (nV (toK n.toNat kept n.toNat))[e.1.toNat * 1]? = some (.int .i64 ((oldK kept n.toNat).idxOf e.1.toNat : Nat)) := by rw [Nat.mul_one, nV, List.getElem?_map, toK_get (by omega) hb1]; rfl
        have ht2 : (nV (toK n.toNat kept n.toNat))[e.2.1.toNat * 1]? = some (.int .i64 ((oldK kept n.toNat).idxOf e.2.1.toNat : Nat)) := by rw [Nat.mul_one, nV, List.getElem?_map, toK_get (by omega) hb2]; rfl
        repeat' first
          | refine k_then ?_ | refine c_seq ?_ | refine c_region ?_ | refine s_nil ?_ | refine s_move (by exact rfl) (by exact rfl) ?_ | refine s_fa (by exact rfl) (by exact rfl) ?_ | refine s_ld_box (by exact rfl) (by exact rfl) (by exact .head _) (by exact rfl) ?_ | refine s_idxi (by exact rfl) (by exact rfl) (by exact rfl) (by assumption) (by first | assumption | omega) ?_ | refine s_pick_t (by exact rfl) (by exact rfl) (by exact rfl) ?_ | refine s_ld_row (by exact rfl) (by exact rfl) (by exact .tail _ (.tail _ (.tail _ (.tail _ (.tail _ (.head _)))))) (by assumption) ?_ | refine c_cond_t (by exact rfl) ?_ | refine w_move (by exact rfl) (by exact rfl) (by exact rfl) (by exact rfl) ?_ | refine w_fa (by exact rfl) (by exact rfl) (by exact rfl) (by exact rfl) ?_ | refine w_ld_box (by exact rfl) (by exact rfl) (by exact rfl) (by exact rfl) (by exact .head _) (by exact rfl) ?_ | refine w_idxi (by exact rfl) (by exact rfl) (by exact rfl) (by exact rfl) (by exact rfl) (by assumption) (by first | assumption | omega) ?_ | refine w_ld_row (by exact rfl) (by exact rfl) (by exact rfl) (by exact rfl) (by exact .tail _ (.tail _ (.tail _ (.tail _ (.tail _ (.head _)))))) (by assumption) ?_ | fail
        refine c_pick [1, 0, 0, 0, 0, 0, 0, 0] (by exact rfl) ?_
        refine p_begin2 [(0, true), (1, true), (2, true), (3, true), (4, true), (5, true), (6, true), (7, true), (8, true), (9, true), (10, true), (11, true), (12, true), (13, true), (14, true), (15, false), (16, false)] [(17, true), (18, false)] [boxHP b 37 (eV e), boxHP bh 24 [.int .i64 ((oldK kept n.toNat).length : Int), ve], rowHP vo 3 1 (oldK kept n.toNat).length (nV (oldK kept n.toNat)), rowHP vt 3 1 n.toNat (nV (toK n.toNat kept n.toNat)), rowHP vk 4 1 n.toNat (bV kept), boxHP b6 24 [.int .i64 0, .slice none 0 0], boxHP bg 24 [.int .i64 n, v]] (by kernel_rfl) ?_
        repeat' first
          | (refine p_at (by exact rfl) ?_
             first
              | refine t_move (by exact rfl) (by exact rfl) (by exact fun _ h => h.tl) ?_ | refine t_fa (by exact rfl) (by exact rfl) (by exact fun _ h => h.tl) ?_ | refine t_ld_box (by exact rfl) (by exact rfl) (by first | exact .head _ | exact .tail _ (.head _)) (by exact rfl) (by exact fun _ h => h.tl) ?_ | refine t_idxi (by exact rfl) (by exact rfl) (by exact rfl) (by assumption) (by first | assumption | omega) (by exact fun _ h => h.tl) ?_ | refine t_ld_row (by exact rfl) (by exact rfl) (by exact .tail _ (.tail _ (.tail _ (.head _)))) (by assumption) (by exact fun _ h => h.tl) ?_ | fail)
          | fail
        refine p_buildt (cs := eV (renE (oldK kept n.toNat) e)) [(0, .int .i64 ((oldK kept n.toNat).idxOf e.1.toNat : Int), [.int .i64 ((oldK kept n.toNat).idxOf e.1.toNat : Int)]), (1, .int .i64 ((oldK kept n.toNat).idxOf e.2.1.toNat : Int), [.int .i64 ((oldK kept n.toNat).idxOf e.2.1.toNat : Int)]), (2, .int .i64 e.2.2, [.int .i64 e.2.2])] (by exact rfl) (by exact rfl) (by exact rfl) (by simp [Value.cells]) ?_ (by exact fun _ h => h.tl) ?_
        · exact rfl
        refine p_mk (sz := 3) [.agg (eV (renE (oldK kept n.toNat) e)).toArray] (by exact rfl) (by exact rfl) (by exact rfl) rfl (by simp [Value.cells, eV]) (by simp) (by simp) (fun _ _ h => h.tl.tl) fun v2 hv2 => ?_
        refine p_append_row (bytes := 24) (c := 1) (j := 1) (by exact rfl) (by exact rfl) (by exact rfl) (by exact rfl) (by exact rfl) (.head _) (by simp [Value.cells, eV]) (by simp [Value.cells, eV, Value.oneCell']) (by omega) (fun _ _ h => h.tl.tl) (fun v3 hv3 => ?_)
        refine p_nil ?_
        refine p_cut [rowHP vo 3 1 (oldK kept n.toNat).length (nV (oldK kept n.toNat)), rowHP vt 3 1 n.toNat (nV (toK n.toNat kept n.toNat)), rowHP vk 4 1 n.toNat (bV kept), boxHP b6 24 [.int .i64 0, .slice none 0 0], boxHP bg 24 [.int .i64 n, v]] (fun _ h => h.pick [4, 4, 4, 4, 4] (by exact rfl)) ?_
        refine p_at (by exact rfl) ?_
        refine t_fa (by exact rfl) (by exact rfl) (fun _ h => h.pick [4, 4, 4, 4, 4] (by exact rfl)) ?_
        refine p_st_box (j := 3) (by exact rfl) (by exact rfl) (by exact rfl) (by exact rfl) hv3.one (by simp) (fun _ h => h.pick [4, 4, 4, 4, 4] (by exact rfl)) ?_
        refine p_nil ?_
        repeat' first
          | refine k_then ?_ | refine c_region ?_ | refine s_nil ?_ | refine s_move (by exact rfl) (by exact rfl) ?_ | refine s_assign (by exact rfl) (by exact rfl) ?_ | refine s_add (by exact rfl) (by exact rfl) (by exact rfl) (by omega) ?_ | refine k_blk ?_ | fail
        refine c_round (i + 1, v3) [1, 2, 2, 2, 2, 2, 2] ?_ ⟨rfl, rfl, rfl, rfl, rfl, rfl, rfl, trivial⟩ (by dsimp only; omega) (by dsimp only; omega)
        dsimp only
        rw [hsn, List.length_append, esV_append]
        exact rfl
  · repeat' first
      | refine k_then ?_ | refine c_seq ?_ | refine c_region ?_ | refine s_nil ?_ | refine s_move (by exact rfl) (by exact rfl) ?_ | refine s_fa (by exact rfl) (by exact rfl) ?_ | refine s_ld_box (by exact rfl) (by exact rfl) (by exact .tail _ (.tail _ (.tail _ (.tail _ (.tail _ (.tail _ (.head _))))))) (by exact rfl) ?_ | refine s_lss (by exact rfl) (by exact rfl) (by exact rfl) ?_ | refine s_len (by exact rfl) (by exact rfl) (by assumption) ?_ | refine s_ldk_box (by exact rfl) (by exact rfl) (by exact .tail _ (.head _)) (by exact rfl) (by exact rfl) ?_ | refine c_exit ?_ | refine k_then_exit ?_ | refine k_blk_eq ?_ | (refine c_cond_p (by exact rfl) (fun h => ?_) (fun h => ?_) <;> try (exfalso; omega)) | fail
    obtain rfl : i = es.length := by omega
    rw [List.take_length]
    refine o_stk_box (i := 5) (us := [.int .i64 ((oldK kept n.toNat).length : Int), ve]) (by exact rfl) (by exact rfl) (by exact rfl) (by exact rfl) (by exact rfl) (by
      intro u hu
      simp only [List.mem_cons, List.not_mem_nil, or_false] at hu
      rcases hu with rfl | rfl
      · rfl
      · exact hve.one) (by simp [Value.cells]) ?_
    repeat' first
      | refine k_then ?_ | refine s_nil ?_ | refine s_assign (by exact rfl) (by exact rfl) ?_ | refine c_ret ?_ | fail
    refine retL [.cell 6 24, .tmp 7] [.agg #[.int .i64 ((oldK kept n.toNat).length : Int), ve], vo] [0, 1] rfl ⟨res_cellk (tb := 24) (cs := [.int .i64 ((oldK kept n.toNat).length : Int), ve]) (k := 2) (off := 0) (us := [.int .i64 ((oldK kept n.toNat).length : Int), ve]) rfl (.tail _ (.tail _ (.tail _ (.tail _ (.tail _ (.head _)))))) rfl rfl, res_tmp rfl, trivial⟩ (by exact rfl) ⟨ve, vo, rfl, rfl⟩
theorem refMost20_ok (n : Int) (v : Value) (es : List E) (k s : Int) (o lab : Nat → Nat) (l : List Nat) (w : World) (hs : Shp v es.length) (hr : RO w No v (esV es)) (hR : RightG n es) (hLev : Lev n.toNat (nb (tn es)) o lab) (hk : 1 ≤ k ∧ k ≤ 8 ∧ 0 ≤ s ∧ s ≤ k) (hM : MaxIn (nearS (tn es)) n.toNat (fun u => (keptL n.toNat k.toNat s.toNat o).getD u false) l) :
    Calls Tryz.prog 24 #[.agg #[.int .i64 n, v], .int .i64 k, .int .i64 s] w (Post w No (Just (.int .i64 (l.length : Int)))) := by
  have hol := oldK_length (keptL n.toNat k.toNat s.toNat o) n.toNat
  have hhi := hR.hi
  have hlo := hR.lo
  have hG := renL_right hR (oldK_asc (keptL n.toNat k.toNat s.toNat o) n.toNat) (by omega)
  have hmo := most_old hR hM
  refine enter0 (vs := [_, _, _]) Tryz.func24 rfl Tryz.ntmps24 rfl ?_
  repeat' first
    | refine k_then ?_ | refine c_seq ?_ | refine c_region ?_ | refine s_nil ?_ | refine s_move (by exact rfl) (by exact rfl) ?_ | refine s_assign (by exact rfl) (by exact rfl) ?_ | refine s_ldk_box (by exact rfl) (by exact rfl) (by exact .head _) (by exact rfl) (by exact rfl) ?_ | refine o_box (by exact rfl) (by exact rfl) (fun b => ?_) | fail
  refine o_call (by exact rfl) (by exact rfl) (fun w h => refKept20_ok n v es k s o lab w hs (ro_old h hr) hR hLev hk) ?_
  rintro _ _ ⟨ve, vo, rfl, rfl⟩
  generalize hkd : keptL n.toNat k.toNat s.toNat o = kept at *
  refine know_row (v := ve) (.head _) fun hve _ => ?_
  repeat' first
    | refine s_move (by exact rfl) (by exact rfl) ?_ | refine s_extract (by exact rfl) (by exact rfl) (by exact rfl) ?_ | refine o_alloc (by exact rfl) (fun b => ?_) | fail
  refine o_stk_box (i := 0) (us := [.int .i64 ((oldK kept n.toNat).length : Int), ve]) (by exact rfl) (by exact rfl) (by exact rfl) (by exact rfl) (by exact rfl) (by
    intro u hu
    simp only [List.mem_cons, List.not_mem_nil, or_false] at hu
    rcases hu with rfl | rfl
    · rfl
    · exact hve.one) (by simp [Value.cells]) ?_
  repeat' first
    | refine k_then ?_ | refine c_seq ?_ | refine c_region ?_ | refine s_nil ?_ | refine s_assign (by exact rfl) (by exact rfl) ?_ | refine s_ldk_box (by exact rfl) (by exact rfl) (by exact .head _) (by exact rfl) (by exact rfl) ?_ | fail
  refine s_call (vs := [.agg #[.int .i64 ((oldK kept n.toNat).length : Int), ve]]) (by exact rfl) (by exact rfl) (fun w h => Most_ok ((oldK kept n.toNat).length : Int) ve (renL (oldK kept n.toNat) es) w hve (ro_own h (by exact .tail _ (.head _))) hG) ?_
  rw [Int.toNat_natCast, hmo]
  repeat' first
    | refine k_then ?_ | refine s_nil ?_ | refine s_assign (by exact rfl) (by exact rfl) ?_ | refine c_ret ?_ | fail
  refine ret1 [] rfl rfl (by exact rfl) ⟨rfl, rfl⟩
end Go.Proofs.YtpajjnkmaebhcabGreat
end
section
set_option linter.unusedVariables false
namespace Go.Proofs.YtpajjnkmaebhcabGreat
open Go Go.RowKit Go.Sl Fil
set_option maxRecDepth 100000
set_option maxHeartbeats 8000000
set_option linter.unusedVariables false
set_option linter.unusedSimpArgs false
attribute [local irreducible] Code.wp wpList bodyPost wpQuiet Exit.then Exit.inBlock Post wpAnyH wpOp
end Go.Proofs.YtpajjnkmaebhcabGreat
end
section
set_option linter.unusedVariables false
namespace Fil
open Go.Sl
theorem nextK_nxt {R : List (List Nat)} {d : Nat × Nat} (h1 : d.2 < R.length) (h2 : d.1 ∈ rf R d.2) : nextK (intL R) (d.1 : Int) (d.2 : Int) = (((nxt (rf R) d).1 : Int), ((nxt (rf R) d).2 : Int), true) := by
  have hl : (intL R).length = R.length := by simp [intL]
  have hg : (intL R).getD d.2 [] = (rf R d.2).map fun (k : Nat) => (k : Int) := by
    rw [List.getD_eq_getElem?_getD, intL, List.getElem?_map, rf, List.getD_eq_getElem?_getD, List.getElem?_eq_getElem h1]; rfl
  rw [nextK, if_neg (by rw [hl]; omega), show (d.2 : Int).toNat = d.2 by omega, hg]
  have hi : (rf R d.2).idxOf d.1 < (rf R d.2).length := List.idxOf_lt_length_of_mem h2
  have hf : ((rf R d.2).map fun (k : Nat) => (k : Int)).findIdx? (fun y => decide (y = (d.1 : Int))) = some ((rf R d.2).idxOf d.1) := by
    rw [List.findIdx?_eq_some_iff_getElem]
    refine ⟨by simpa using hi, ?_, fun j hj => ?_⟩
    · rw [List.getElem_map, List.getElem_idxOf]; simp
    · rw [List.getElem_map]
      have h3 : (rf R d.2)[j]'(by omega) ≠ d.1 := by
        have := List.not_of_lt_findIdx hj
        simpa [List.idxOf] using this
      simp only [decide_eq_true_eq]
      omega
  rw [hf]
  have hm : ((rf R d.2).idxOf d.1 + 1) % (rf R d.2).length < (rf R d.2).length := Nat.mod_lt _ (by omega)
  simp only [List.length_map]
  rw [List.getD_eq_getElem?_getD, List.getElem?_map, List.getElem?_eq_getElem hm, nxt, cyc, List.getD_eq_getElem?_getD, List.getElem?_eq_getElem hm]
  rfl
theorem rf_mirror (R : List (List Nat)) (v : Nat) : rf (R.map List.reverse) v = (rf R v).reverse := by
  rw [rf, rf, List.getD_eq_getElem?_getD, List.getD_eq_getElem?_getD, List.getElem?_map]
  cases R[v]? <;> rfl
theorem RotL.rev {N : Nat} {l : List (Nat × Nat)} {R : List (List Nat)} (h : RotL N l R) : RotL N l (R.map List.reverse) :=
  ⟨by simpa using h.len, fun v hv => by rw [rf_mirror]; exact (List.reverse_perm _).trans (h.perm v hv)⟩
theorem edge_of {n : Int} {es : List E} {R : List (List Nat)} {o lab : Nat → Nat} (hR : RightG n es) (h : RotL n.toNat (tn es) R) (hL : Lev n.toNat (nb (tn es)) o lab) {c : List Nat} (hc : c ∈ compsS n.toNat lab) (h1 : c.length ≠ 1) : (tn es).filter (fun e => decide (e.1 ∈ c)) ≠ [] := by
  obtain ⟨c', hp, hg⟩ := comp_grow hR h hL hc
  have hl : c.length ≠ 0 := fun e => comp_ne hc (List.eq_nil_of_length_eq_zero e)
  have hne := grow_ne (h.sys hR) hg (by have := hp.length_eq; omega)
  obtain ⟨v, hv⟩ := List.exists_mem_of_ne_nil _ (comp_ne hc)
  obtain ⟨u, hu⟩ := List.exists_mem_of_ne_nil _ (hne v (hp.mem_iff.2 hv))
  have huc := comp_shut hR h hL hc v hv u hu
  rcases ((h.sys hR).ed u v).1 hu with he | he
  · exact List.ne_nil_of_mem (List.mem_filter.2 ⟨he, decide_eq_true hv⟩)
  · exact List.ne_nil_of_mem (List.mem_filter.2 ⟨he, decide_eq_true huc⟩)
end Fil
end
section
set_option linter.unusedVariables false
namespace Fil
theorem Fs.len {G : Nat × Nat → Nat × Nat} {ds : List (Nat × Nat)} {out : List (List (Nat × Nat))} (h : Fs G ds out) : out.flatten.length ≤ ds.length ∧ out.length ≤ out.flatten.length :=
  ⟨sub_length h.nd h.sub, flat_le fun l hl => (h.cy l hl).1⟩
theorem Fs.all {G : Nat × Nat → Nat × Nat} {ds : List (Nat × Nat)} {n : Nat} (hi : ∀ a ∈ ds, ∀ b ∈ ds, G a = G b → a = b) (hm : ∀ a ∈ ds, G a ∈ ds) (hn : ds.length ≤ n) (l : List (Nat × Nat)) (hl : ∀ z ∈ l, z ∈ ds) : Fs G ds (l.foldl (facesStep G n) []) :=
  (Fs.fold hi hm hn l [] ⟨by simp, by simp, by simp⟩ hl).1
end Fil
namespace Go.Proofs.YtpajjnkmaebhcabGreat
open Go Go.RowKit Go.Sl Fil
set_option maxRecDepth 100000
set_option maxHeartbeats 8000000
set_option linter.unusedVariables false
set_option linter.unusedSimpArgs false
attribute [local irreducible] Code.wp wpList bodyPost wpQuiet Exit.then Exit.inBlock Post wpAnyH wpOp
theorem in_ok (v : Value) (l : List (Nat × Nat)) (d : Nat × Nat) (w : World) (hs : Shp v l.length) (hr : RO w No v (dsV l)) :
    Calls Tryz.prog 91 #[v, .agg #[.int .i64 (d.1 : Int), .int .i64 (d.2 : Int)]] w (Post w No (Just (.bool (decide (d ∈ l))))) := by
  have hm := hs.1
  simp only [maxLen] at hm
  refine enter0 (vs := [_, _]) Tryz.func91 rfl Tryz.ntmps91 rfl ?_
  repeat' first
    | refine k_then ?_ | refine c_seq ?_ | refine c_region ?_ | refine s_nil ?_ | refine s_assign (by exact rfl) (by exact rfl) ?_ | refine o_box (by exact rfl) (by exact rfl) (fun b => ?_) | refine c_block ?_
  refine c_loop (fun k : Nat => k ≤ l.length ∧ ∀ z ∈ l.take k, z ≠ d) (fun k => [(0, v), (3, .pointer (some ⟨b, 0, none⟩)), (4, .bool false), (5, .int .i64 (k : Int))]) (fun _ => [boxHP b 100 (Value.agg #[.int .i64 (d.1 : Int), .int .i64 (d.2 : Int)]).cells.toList]) (fun k => l.length - k) 0 [0] ⟨Nat.zero_le _, by simp⟩ rfl ⟨rfl, rfl, rfl, rfl, trivial⟩ ?_
  rintro k ⟨hk, hq⟩
  by_cases hlt : k < l.length
  · obtain ⟨z, hz⟩ : ∃ z, l[k]? = some z := ⟨_, List.getElem?_eq_getElem hlt⟩
    have hE := dsV_at hz
    repeat' first
      | refine k_then ?_ | refine c_seq ?_ | refine c_region ?_ | refine s_nil ?_ | refine s_move (by exact rfl) (by exact rfl) ?_ | refine s_lss (by exact rfl) (by exact rfl) (by exact rfl) ?_ | refine s_len (by exact rfl) (by exact rfl) (by assumption) ?_ | refine c_block ?_ | refine c_skip ?_ | (refine c_cond_p (by exact rfl) (fun h => ?_) (fun h => ?_) <;> try (exfalso; omega))
    refine p_begin0 [(0, true), (1, true), (2, true), (3, true), (4, true), (5, true)] (by kernel_rfl) ?_
    repeat' first
      | (refine p_at (by exact rfl) ?_
         first
          | refine t_move (by exact rfl) (by exact rfl) (by exact fun _ h => h) ?_ | refine t_idx (by exact rfl) (by exact rfl) (by exact rfl) (by assumption) (by first | assumption | omega) (by exact fun _ h => h) ?_ | refine t_ldk_box (by exact rfl) (by exact rfl) (by exact .head _) (by exact rfl) (by exact rfl) (by exact fun _ h => h) ?_ | refine t_ldk_ro (by exact rfl) (by exact rfl) (by assumption) (by decide) (by assumption) (by exact rfl) (by exact fun _ h => h) ?_)
    refine p_at (by exact rfl) ?_
    refine t_eql2 (by exact rfl) (by exact rfl) (by exact rfl) (by exact fun _ h => h) ?_
    repeat' first
      | refine p_nil ?_
    repeat' first
      | refine k_then ?_ | refine c_seq ?_ | refine c_region ?_ | refine s_nil ?_ | refine s_move (by exact rfl) (by exact rfl) ?_ | refine s_assign (by exact rfl) (by exact rfl) ?_ | refine s_add (by exact rfl) (by exact rfl) (by exact rfl) (by omega) ?_ | refine c_skip ?_ | refine c_ret ?_ | refine k_then_ret ?_ | refine k_blk ?_ | refine k_blk_ret ?_ | (refine c_cond_p (by exact rfl) (fun h => ?_) (fun h => ?_) <;> try (exfalso; omega))
    · refine ret1 [] rfl rfl rfl ⟨congrArg Value.bool ?_, rfl⟩
      refine (decide_eq_true ?_).symm
      have e : z = d := Prod.ext (by omega) (by omega)
      exact e ▸ List.mem_of_getElem? hz
    · refine c_round (k + 1) [0] (by exact rfl) ⟨rfl, rfl, rfl, rfl, trivial⟩ ⟨by omega, fun y hy => ?_⟩ (by omega)
      rw [List.take_add_one, hz] at hy
      rcases List.mem_append.1 hy with hy | hy
      · exact hq y hy
      · obtain rfl : y = z := by simpa using hy
        intro e
        subst e
        exact h ⟨rfl, rfl⟩
  · repeat' first
      | refine k_then ?_ | refine c_seq ?_ | refine c_region ?_ | refine s_nil ?_ | refine s_move (by exact rfl) (by exact rfl) ?_ | refine s_assign (by exact rfl) (by exact rfl) ?_ | refine s_lss (by exact rfl) (by exact rfl) (by exact rfl) ?_ | refine s_len (by exact rfl) (by exact rfl) (by assumption) ?_ | refine c_exit ?_ | refine c_ret ?_ | refine k_then_exit ?_ | refine k_blk_eq ?_ | (refine c_cond_p (by exact rfl) (fun h => ?_) (fun h => ?_) <;> try (exfalso; omega))
    refine ret1 [] rfl rfl rfl ⟨congrArg Value.bool ?_, rfl⟩
    refine (decide_eq_false fun hd => ?_).symm
    rw [List.take_of_length_le (by omega)] at hq
    exact hq d hd rfl
theorem refFaces_ok (n : Int) (v : Value) (es : List E) (vr : Value) (hr0 : List Value) (R : List (List Nat)) (w : World) (hs : Shp v es.length) (hr : RO w No v (esV es)) (hG : RightG n es) (hR : ROs w No vr hr0 R) (hRot : RotL n.toNat (tn es) R) :
    Calls Tryz.prog 70 #[.agg #[.int .i64 n, v], vr] w (Post w No fun vo L' => ∃ ho : List Value, ho.length = (facesR n.toNat (tn es) R).length ∧ L' = [rowHP vo 101 1 (facesR n.toNat (tn es) R).length ho, starHP (kids rowD ho (facesR n.toNat (tn es) R))]) := by
  have hsr := hR.shp
  have hrr := hR.ro
  have hlo := hG.lo
  have hhi := hG.hi
  have hmany := hG.many
  have hRl := hRot.len
  refine enter0 (vs := [_, _]) Tryz.func70 rfl Tryz.ntmps70 rfl ?_
  repeat' first
    | refine k_then ?_ | refine c_seq ?_ | refine c_region ?_ | refine s_nil ?_ | refine s_assign (by exact rfl) (by exact rfl) ?_ | refine o_box (by exact rfl) (by exact rfl) (fun b => ?_) | refine c_block ?_
  revert b; intro bg
  have hi := all_inj hG hRot
  have hm := all_mem hG hRot
  have hdl := dartsAll_length hG
  have hin : ∀ d ∈ dartsAll n.toNat (tn es), d.1 < n.toNat ∧ d.2 < n.toNat := fun d hd => dart_lt hG hd
  have hdm : ∀ d : Nat × Nat, d ∈ dartsAll n.toNat (tn es) ↔ d.2 ∈ rf R d.1 := fun d => dart_in hG hRot
  have hnx : ∀ d ∈ dartsAll n.toNat (tn es), nextK (intL R) (d.1 : Int) (d.2 : Int) = (((nxt (rf R) d).1 : Int), ((nxt (rf R) d).2 : Int), true) := fun d hd =>
    nextK_nxt (by have := (hin d hd).2; omega) ((hRot.sys hG).sym ((hdm d).1 hd))
  have hnf : ∀ u, ((List.range n.toNat).filter fun v => decide (v ∈ rf R u)).map (fun x => (u, x)) = vc (nearS (tn es)) u := fun u => by rw [near_filter hG hRot, vc]
  have hfR : facesR n.toNat (tn es) R = (dartsOf (nearS (tn es)) (List.range n.toNat)).foldl (facesStep (nxt (rf R)) (2 * es.length + 1)) [] := by rw [facesR, facesL, tn_len, dartsAll]
  have hsub : ∀ u, u ≤ n.toNat → ∀ z ∈ dartsOf (nearS (tn es)) (List.range u), z ∈ dartsAll n.toNat (tn es) := fun u hu z hz => by
    obtain ⟨h1, h2⟩ := mem_darts.1 hz
    exact mem_darts.2 ⟨List.mem_range.2 (by have := List.mem_range.1 h1; omega), h2⟩
  rw [hfR]
  generalize dartsAll n.toNat (tn es) = ds at *
  generalize nxt (rf R) = G at *
  have hFa : ∀ l : List (Nat × Nat), (∀ z ∈ l, z ∈ ds) → Fs G ds (l.foldl (facesStep G (2 * es.length + 1)) []) := fun l hl => Fs.all hi hm (by omega) l hl
  generalize hN : n.toNat = N at *
  have hnN : n = (N : Int) := by omega
  subst hnN
  refine c_nil 100 2 ?_
  refine c_nil 101 1 ?_
  refine c_star0 ?_
  refine c_loop (fun x : Nat × Value × List Value × Value => x.1 ≤ N ∧ x.2.2.1.length = ((dartsOf (nearS (tn es)) (List.range x.1)).foldl (facesStep G (2 * es.length + 1)) []).length)
    (fun x => [(1, vr), (2, .pointer (some ⟨bg, 0, none⟩)), (5, x.2.1), (6, x.2.2.2), (7, .int .i64 (x.1 : Int))])
    (fun x => [rowHP x.2.1 101 1 ((dartsOf (nearS (tn es)) (List.range x.1)).foldl (facesStep G (2 * es.length + 1)) []).length x.2.2.1, starHP (kids rowD x.2.2.1 ((dartsOf (nearS (tn es)) (List.range x.1)).foldl (facesStep G (2 * es.length + 1)) [])),
      rowHP x.2.2.2 100 2 ((dartsOf (nearS (tn es)) (List.range x.1)).foldl (facesStep G (2 * es.length + 1)) []).flatten.length (dsV ((dartsOf (nearS (tn es)) (List.range x.1)).foldl (facesStep G (2 * es.length + 1)) []).flatten), boxHP bg 24 [.int .i64 (N : Int), v]])
    (fun x => N - x.1) (0, .slice none 0 0, [], .slice none 0 0) [1, 0, 0, 0] ⟨Nat.zero_le _, rfl⟩ (by exact rfl) ⟨rfl, rfl, rfl, rfl, rfl, trivial⟩ ?_
  rintro ⟨u, vo, ho, vm⟩ ⟨hu, hol⟩
  dsimp only at hu hol ⊢
  have hFu := hFa _ (hsub u hu)
  have hdsu : dartsOf (nearS (tn es)) (List.range (u + 1)) = dartsOf (nearS (tn es)) (List.range u) ++ vc (nearS (tn es)) u := by rw [List.range_succ, dartsOf, List.flatMap_append]; simp [dartsOf]
  by_cases hlt : u < N
  · obtain ⟨hx, hhx⟩ : ∃ x, hr0[u]? = some x := ⟨_, List.getElem?_eq_getElem (by have := hR.len; omega)⟩
    obtain ⟨l, hl⟩ : ∃ l, R[u]? = some l := ⟨_, List.getElem?_eq_getElem (by omega)⟩
    obtain ⟨hsx, hrx⟩ := hR.kid u hx l hhx hl
    have hgd : rf R u = l := by rw [rf, List.getD_eq_getElem?_getD, hl]; rfl
    have h1' : hr0[u * 1]? = some hx := by rw [Nat.mul_one]; exact hhx
    have hnfu := hnf u
    rw [hgd] at hnfu
    have hPs : ∀ k, ((List.range (k + 1)).filter fun v => decide (v ∈ l)).map (fun x => (u, x)) = ((List.range k).filter fun v => decide (v ∈ l)).map (fun x => (u, x)) ++ if k ∈ l then [(u, k)] else [] := fun k => by
      rw [List.range_succ, List.filter_append, List.map_append]
      by_cases hk : k ∈ l <;> simp [hk]
    have hPm : ∀ k, k < N → k ∈ l → (u, k) ∈ ds := fun k hk hkl => (hdm (u, k)).2 (by rw [hgd]; exact hkl)
    have hFk : ∀ k, k ≤ N → Fs G ds ((((List.range k).filter fun v => decide (v ∈ l)).map (fun x => (u, x))).foldl (facesStep G (2 * es.length + 1)) ((dartsOf (nearS (tn es)) (List.range u)).foldl (facesStep G (2 * es.length + 1)) [])) := fun k hk => by
      rw [← List.foldl_append]
      refine hFa _ fun z hz => ?_
      rcases List.mem_append.1 hz with hz | hz
      · exact hsub u hu z hz
      · obtain ⟨x, hx, rfl⟩ := List.mem_map.1 hz
        obtain ⟨h1, h2⟩ := List.mem_filter.1 hx
        exact hPm x (by have := List.mem_range.1 h1; omega) (by simpa using h2)
    have hO1 : (dartsOf (nearS (tn es)) (List.range (u + 1))).foldl (facesStep G (2 * es.length + 1)) [] = (((List.range N).filter fun v => decide (v ∈ l)).map (fun x => (u, x))).foldl (facesStep G (2 * es.length + 1)) ((dartsOf (nearS (tn es)) (List.range u)).foldl (facesStep G (2 * es.length + 1)) []) := by rw [hdsu, List.foldl_append, hnfu]
    generalize (dartsOf (nearS (tn es)) (List.range u)).foldl (facesStep G (2 * es.length + 1)) [] = X at *
    repeat' first
      | refine k_then ?_ | refine c_seq ?_ | refine c_region ?_ | refine s_nil ?_ | refine s_move (by exact rfl) (by exact rfl) ?_ | refine s_assign (by exact rfl) (by exact rfl) ?_ | refine s_fa (by exact rfl) (by exact rfl) ?_ | refine s_ld_box (by exact rfl) (by exact rfl) (by exact .tail _ (.tail _ (.tail _ (.head _)))) (by exact rfl) ?_ | refine s_lss (by exact rfl) (by exact rfl) (by exact rfl) ?_ | refine c_block ?_ | refine c_skip ?_ | (refine c_cond_p (by exact rfl) (fun h => ?_) (fun h => ?_) <;> try (exfalso; omega))
    refine c_loop (fun x : Nat × Value × List Value × Value => x.1 ≤ N ∧ x.2.2.1.length = ((((List.range x.1).filter fun v => decide (v ∈ l)).map (fun x => (u, x))).foldl (facesStep G (2 * es.length + 1)) X).length)
      (fun x => [(1, vr), (2, .pointer (some ⟨bg, 0, none⟩)), (5, x.2.1), (6, x.2.2.2), (7, .int .i64 (u : Int)), (8, .int .i64 (x.1 : Int))])
      (fun x => [rowHP x.2.1 101 1 ((((List.range x.1).filter fun v => decide (v ∈ l)).map (fun x => (u, x))).foldl (facesStep G (2 * es.length + 1)) X).length x.2.2.1, starHP (kids rowD x.2.2.1 ((((List.range x.1).filter fun v => decide (v ∈ l)).map (fun x => (u, x))).foldl (facesStep G (2 * es.length + 1)) X)),
        rowHP x.2.2.2 100 2 ((((List.range x.1).filter fun v => decide (v ∈ l)).map (fun x => (u, x))).foldl (facesStep G (2 * es.length + 1)) X).flatten.length (dsV ((((List.range x.1).filter fun v => decide (v ∈ l)).map (fun x => (u, x))).foldl (facesStep G (2 * es.length + 1)) X).flatten), boxHP bg 24 [.int .i64 (N : Int), v]])
      (fun x => N - x.1) (0, vo, ho, vm) [0, 0, 0, 0] ⟨Nat.zero_le _, hol⟩ (by exact rfl) ⟨rfl, rfl, rfl, rfl, rfl, rfl, trivial⟩ ?_
    rintro ⟨k, vo2, ho2, vm2⟩ ⟨hk, hol2⟩
    dsimp only at hk hol2 ⊢
    have hF := hFk k hk
    have hF2 := hFk (k + 1)
    rw [hPs k, List.foldl_append] at hF2
    by_cases hkl : k < N
    · have hF2 := hF2 hkl
      have hOk : (((List.range (k + 1)).filter fun v => decide (v ∈ l)).map (fun x => (u, x))).foldl (facesStep G (2 * es.length + 1)) X = (if k ∈ l then [(u, k)] else []).foldl (facesStep G (2 * es.length + 1)) ((((List.range k).filter fun v => decide (v ∈ l)).map (fun x => (u, x))).foldl (facesStep G (2 * es.length + 1)) X) := by rw [hPs k, List.foldl_append]
      have hlen := hF.len
      generalize (((List.range k).filter fun v => decide (v ∈ l)).map (fun x => (u, x))).foldl (facesStep G (2 * es.length + 1)) X = out at *
      refine know_row (v := vm2) (by exact .tail _ (.tail _ (.head _))) fun hvm2 _ => ?_
      repeat' first
        | refine k_then ?_ | refine c_seq ?_ | refine c_region ?_ | refine s_nil ?_ | refine s_move (by exact rfl) (by exact rfl) ?_ | refine s_fa (by exact rfl) (by exact rfl) ?_ | refine s_ld_box (by exact rfl) (by exact rfl) (by exact .tail _ (.tail _ (.tail _ (.head _)))) (by exact rfl) ?_ | refine s_lss (by exact rfl) (by exact rfl) (by exact rfl) ?_ | refine c_block ?_ | refine c_skip ?_ | (refine c_cond_p (by exact rfl) (fun h => ?_) (fun h => ?_) <;> try (exfalso; omega))
      refine o_build (cs := [.int .i64 (u : Int), .int .i64 (k : Int)]) [(0, .int .i64 (u : Int), [.int .i64 (u : Int)]), (1, .int .i64 (k : Int), [.int .i64 (k : Int)])] (by exact rfl) (by exact rfl) (by simp [Value.cells]) (by exact rfl) ?_
      repeat' first
        | refine o_alloc (by exact rfl) (fun b => ?_)
      revert b; intro b9
      refine o_stk_box (i := 0) (us := [.int .i64 (u : Int), .int .i64 (k : Int)]) (by exact rfl) (by exact rfl) (by exact rfl) (by exact rfl) (by exact rfl) (by simp [Value.oneCell']) (by simp [Value.cells]) ?_
      repeat' first
        | refine k_then ?_ | refine c_seq ?_ | refine c_region ?_ | refine s_nil ?_ | refine s_move (by exact rfl) (by exact rfl) ?_ | refine s_idx (by exact rfl) (by exact rfl) (by exact rfl) (by assumption) (by first | assumption | omega) ?_ | refine s_ld_ro (by exact rfl) (by exact rfl) (by assumption) (by assumption) ?_
      refine s_call (by exact rfl) (by exact rfl) (fun w h => HasN_ok hx l k w hsx (ro_old h hrx)) ?_
      by_cases hkin : k ∈ l
      · rw [decide_eq_true hkin]
        rw [if_pos hkin, List.foldl_cons, List.foldl_nil] at hOk hF2
        repeat' first
          | refine s_move (by exact rfl) (by exact rfl) ?_ | refine s_not (by exact rfl) (by exact rfl) ?_ | refine w_move (by exact rfl) (by exact rfl) (by exact rfl) (by exact rfl) ?_ | refine w_ldk_box (by exact rfl) (by exact rfl) (by exact rfl) (by exact rfl) (by exact .head _) (by exact rfl) (by exact rfl) ?_ | refine g_on (by exact rfl) (by exact rfl) ?_
        refine s_call (by exact rfl) (by exact rfl) (fun w h => in_ok vm2 out.flatten (u, k) w hvm2 (ro_own h (by exact .tail _ (.tail _ (.tail _ (.head _)))))) ?_
        by_cases hmet : (u, k) ∈ out.flatten
        · rw [decide_eq_true hmet]
          rw [facesStep, if_pos hmet] at hOk
          repeat' first
            | refine k_then ?_ | refine c_region ?_ | refine s_nil ?_ | refine s_move (by exact rfl) (by exact rfl) ?_ | refine s_assign (by exact rfl) (by exact rfl) ?_ | refine s_add (by exact rfl) (by exact rfl) (by exact rfl) (by omega) ?_ | refine s_pick_f (by exact rfl) (by exact rfl) (by exact rfl) ?_ | refine c_exit ?_ | refine k_then_exit ?_ | refine k_blk_eq ?_ | refine c_cond_t (by exact rfl) ?_
          refine c_round (k + 1, vo2, ho2, vm2) [1, 1, 1, 1] (by dsimp only; rw [hOk]; rfl) ⟨rfl, rfl, rfl, rfl, rfl, rfl, trivial⟩ ⟨by dsimp only; omega, by dsimp only; rw [hOk]; exact hol2⟩ (by dsimp only; omega)
        · rw [decide_eq_false hmet]
          rw [facesStep, if_neg hmet] at hOk hF2
          have hstart := hF.start (hPm k hkl hkin) hmet
          repeat' first
            | refine k_then ?_ | refine c_seq ?_ | refine c_region ?_ | refine s_nil ?_ | refine s_assign (by exact rfl) (by exact rfl) ?_ | refine s_pick_f (by exact rfl) (by exact rfl) (by exact rfl) ?_ | refine s_ldk_box (by exact rfl) (by exact rfl) (by exact .head _) (by exact rfl) (by exact rfl) ?_ | refine o_alloc (by exact rfl) (fun b => ?_) | refine c_skip ?_ | refine c_cond_f (by exact rfl) ?_
          refine o_stk_box (i := 0) (us := [.int .i64 (u : Int), .int .i64 (k : Int)]) (by exact rfl) (by exact rfl) (by exact rfl) (by exact rfl) (by exact rfl) (by simp [Value.oneCell']) (by simp [Value.cells]) ?_
          repeat' first
            | refine k_then ?_ | refine s_nil ?_ | refine c_block ?_
          refine c_nil 100 2 ?_
          refine c_loop (fun x : List (Nat × Nat) × (Nat × Nat) × Value × Nat => InF G ds out (u, k) x.1 x.2.1 ∧ (x.1 = [] ∨ x.2.1 ≠ (u, k)))
            (fun x => [(1, vr), (2, .pointer (some ⟨bg, 0, none⟩)), (5, vo2), (6, vm2), (7, .int .i64 (u : Int)), (8, .int .i64 (k : Int)), (9, .pointer (some ⟨b9, 0, none⟩)), (10, x.2.2.1), (11, .pointer (some ⟨x.2.2.2, 0, none⟩))])
            (fun x => [rowHP x.2.2.1 100 2 x.1.length (dsV x.1), boxHP x.2.2.2 100 [.int .i64 (x.2.1.1 : Int), .int .i64 (x.2.1.2 : Int)], boxHP b9 100 [.int .i64 (u : Int), .int .i64 (k : Int)], rowHP vo2 101 1 out.length ho2, starHP (kids rowD ho2 out), rowHP vm2 100 2 out.flatten.length (dsV out.flatten), boxHP bg 24 [.int .i64 (N : Int), v]])
            (fun x => ds.length - x.1.length) ([], (u, k), .slice none 0 0, b) [0, 0, 0, 0, 0, 0, 0] ⟨hstart, .inl rfl⟩ (by exact rfl) ⟨rfl, rfl, rfl, rfl, rfl, rfl, rfl, rfl, rfl, trivial⟩ ?_
          rintro ⟨f, x, vf, bx⟩ ⟨hI, hne⟩
          dsimp only at hI hne ⊢
          have hxm := hI.mem
          obtain ⟨hxf, hI2⟩ := hI.more hi hm hF.cy hF.sub hne
          have hroom := hI.room hxf
          have hxin := hin x hxm
          have hgx := hin (G x) (hm x hxm)
          refine know_row (v := vf) (.head _) fun hvf _ => ?_
          repeat' first
            | refine k_then ?_ | refine c_seq ?_ | refine c_region ?_ | refine s_nil ?_ | refine s_move (by exact rfl) (by exact rfl) ?_ | refine s_fa (by exact rfl) (by exact rfl) ?_ | refine s_ld_box (by exact rfl) (by exact rfl) (by exact .tail _ (.tail _ (.tail _ (.tail _ (.tail _ (.tail _ (.head _))))))) (by exact rfl) ?_ | refine s_leq (by exact rfl) (by exact rfl) (by exact rfl) ?_ | refine s_mul (by exact rfl) (by exact rfl) (by exact rfl) (by omega) ?_ | refine s_len (by exact rfl) (by exact rfl) (by assumption) ?_ | refine s_ldk_box (by exact rfl) (by exact rfl) (by exact .tail _ (.head _)) (by exact rfl) (by exact rfl) ?_ | refine c_block ?_ | refine c_skip ?_ | (refine c_cond_p (by exact rfl) (fun h => ?_) (fun h => ?_) <;> try (exfalso; omega))
          refine o_mk [.agg #[.int .i64 (x.1 : Int), .int .i64 (x.2 : Int)]] (by exact rfl) (by exact rfl) rfl ?_ ?_ (by simp) fun vt hvt => ?_
          · simp [Value.cells]
          · simp
          rw [show ([Value.agg #[.int .i64 (x.1 : Int), .int .i64 (x.2 : Int)]].flatMap fun u => u.cells.toList) = dsV [x] from rfl]
          skip
          refine o_append_row (i := 1) (by exact rfl) (by exact rfl) (by exact rfl) (by exact rfl) (by exact .head _) (by exact rfl) (by intro u hu; exact dsV_one _ u hu) ?_ fun vf2 hvf2 => ?_
          · show (f.length + 1) * 16 ≤ _
            omega
          repeat' first
            | refine k_then ?_ | refine c_seq ?_ | refine c_region ?_ | refine s_nil ?_ | refine s_move (by exact rfl) (by exact rfl) ?_ | refine s_assign (by exact rfl) (by exact rfl) ?_ | refine s_ldk_box (by exact rfl) (by exact rfl) (by exact .tail _ (.tail _ (.head _))) (by exact rfl) (by exact rfl) ?_
          refine s_call (by exact rfl) (by exact rfl) (fun w h => refNext_ok vr hr0 (intL R) x.1 x.2 w (rosI_old h hR.int)) ?_
          rw [hnx x hxm]
          repeat' first
            | refine s_move (by exact rfl) (by exact rfl) ?_ | refine s_extract (by exact rfl) (by exact rfl) (by exact rfl) ?_
          refine o_stk_box (i := 2) (us := [.int .i64 ((G x).1 : Int), .int .i64 ((G x).2 : Int)]) (by exact rfl) (by exact rfl) (by exact rfl) (by exact rfl) (by exact rfl) (by simp [Value.oneCell']) (by simp [Value.cells, putL]) ?_
          repeat' first
            | refine k_then ?_ | refine c_seq ?_ | refine c_region ?_ | refine s_nil ?_ | refine s_ldk_box (by exact rfl) (by exact rfl) (by first | exact .tail _ (.tail _ (.head _)) | exact .tail _ (.tail _ (.tail _ (.head _)))) (by exact rfl) (by exact rfl) ?_
          refine s_eql2 (by exact rfl) (by exact rfl) (by exact rfl) ?_
          repeat' first
            | refine k_then ?_ | refine c_seq ?_ | refine c_region ?_ | refine s_nil ?_ | refine s_move (by exact rfl) (by exact rfl) ?_ | refine s_ldk_box (by exact rfl) (by exact rfl) (by exact .tail _ (.tail _ (.head _))) (by exact rfl) (by exact rfl) ?_ | refine o_alloc (by exact rfl) (fun b => ?_) | refine c_skip ?_ | refine c_exit ?_ | refine k_then_exit ?_ | refine k_blk ?_ | refine k_blk_eq ?_ | refine k_blk_ne (by exact rfl) ?_ | (refine c_cond_p (by exact rfl) (fun h => ?_) (fun h => ?_) <;> try (exfalso; omega))
          · have e : G x = (u, k) := Prod.ext (by dsimp only; omega) (by dsimp only; omega)
            rw [e] at hI2
            have htr : tr G (u, k) (2 * es.length + 1) (u, k) = f ++ [x] := hI2.tr (by simp) (by rw [List.length_append]; simp only [List.length_cons, List.length_nil]; omega)
            rw [htr] at hOk hF2
            have hF2l := hF2.len
            rw [List.flatten_append, List.length_append, List.length_append] at hF2l
            simp only [List.flatten_cons, List.flatten_nil, List.append_nil, List.length_append, List.length_cons, List.length_nil] at hF2l
            refine o_append_row (i := 6) (by exact rfl) (by exact rfl) (by exact rfl) (by exact rfl) (by exact .tail _ (.head _)) ?_ ?_ ?_ fun vm3 hvm3 => ?_
            · rw [List.length_append, dsV_length, dsV_length]; simp only [List.length_cons, List.length_nil]; omega
            · intro u hu
              rcases List.mem_append.1 hu with hu | hu
              · exact dsV_one _ u hu
              · exact dsV_one _ u hu
            · show (out.flatten.length + (f.length + 1)) * 16 ≤ _
              omega
            repeat' first
              | refine k_then ?_ | refine c_region ?_ | refine s_nil ?_ | refine s_move (by exact rfl) (by exact rfl) ?_ | refine s_assign (by exact rfl) (by exact rfl) ?_
            refine o_mk [vf2] (by exact rfl) (by exact rfl) rfl ?_ ?_ (by simp) fun vt2 hvt2 => ?_
            · intro u hu
              obtain rfl : u = vf2 := by simpa using hu
              rw [← Array.length_toList, one_cells hvf2.one]; rfl
            · simp
            rw [show ([vf2].flatMap fun u => u.cells.toList) = [vf2] from by simp [one_cells hvf2.one]]
            skip
            refine o_append_row (i := 5) (by exact rfl) (by exact rfl) (by exact rfl) (by exact rfl) (by exact .head _) (by exact rfl) (by simp [hvf2.one]) ?_ fun vo3 hvo3 => ?_
            · show (out.length + 1) * 24 ≤ _
              omega
            repeat' first
              | refine k_then ?_ | refine c_region ?_ | refine s_nil ?_ | refine s_move (by exact rfl) (by exact rfl) ?_ | refine s_assign (by exact rfl) (by exact rfl) ?_ | refine s_add (by exact rfl) (by exact rfl) (by exact rfl) (by omega) ?_ | refine k_blk ?_
            refine c_pick [2, 4, 4, 4, 4] (by exact rfl) ?_
            refine c_pushk 1 (by exact rfl) ?_
            refine c_round (k + 1, vo3, ho2 ++ [vf2], vm3) [0, 0, 0, 0] ?_ ⟨rfl, rfl, rfl, rfl, rfl, rfl, trivial⟩ ⟨by dsimp only; omega, by dsimp only; rw [hOk, List.length_append, List.length_append, hol2]; rfl⟩ (by dsimp only; omega)
            dsimp only
            rw [hOk, kids_append hol2, List.flatten_append, show [f ++ [x]].flatten = f ++ [x] by simp, dsV_append, dsV_append, List.length_append, List.length_append, List.length_append, show rowD vf2 (f ++ [x]) = rowHP vf2 100 2 (f.length + 1) (dsV f ++ dsV [x]) from by rw [rowD, dsV_append, List.length_append]; rfl]
            rfl
          · have e : G x ≠ (u, k) := fun e => h (by rw [e]; exact ⟨rfl, rfl⟩)
            refine o_stk_box (i := 0) (us := [.int .i64 ((G x).1 : Int), .int .i64 ((G x).2 : Int)]) (by exact rfl) (by exact rfl) (by exact rfl) (by exact rfl) (by exact rfl) (by simp [Value.oneCell']) (by simp [Value.cells, putL]) ?_
            repeat' first
              | refine k_then ?_ | refine s_nil ?_
            refine c_round (f ++ [x], G x, vf2, b) [2, 0, 2, 2, 2, 2, 2] ?_ ⟨rfl, rfl, rfl, rfl, rfl, rfl, rfl, rfl, rfl, trivial⟩ ⟨hI2, .inr e⟩ (by dsimp only; rw [List.length_append]; simp only [List.length_cons, List.length_nil]; omega)
            dsimp only
            rw [dsV_append, List.length_append]
            rfl
      · rw [decide_eq_false hkin]
        rw [if_neg hkin, List.foldl_nil] at hOk
        repeat' first
          | refine k_then ?_ | refine c_region ?_ | refine s_nil ?_ | refine s_move (by exact rfl) (by exact rfl) ?_ | refine s_assign (by exact rfl) (by exact rfl) ?_ | refine s_add (by exact rfl) (by exact rfl) (by exact rfl) (by omega) ?_ | refine s_not (by exact rfl) (by exact rfl) ?_ | refine s_pick_t (by exact rfl) (by exact rfl) (by exact rfl) ?_ | refine c_exit ?_ | refine k_then_exit ?_ | refine k_blk_eq ?_ | refine c_cond_t (by exact rfl) ?_ | refine g_skip (by exact rfl) (by exact rfl) (by exact rfl) (by exact rfl) ?_
        refine c_round (k + 1, vo2, ho2, vm2) [1, 1, 1, 1] (by dsimp only; rw [hOk]; rfl) ⟨rfl, rfl, rfl, rfl, rfl, rfl, trivial⟩ ⟨by dsimp only; omega, by dsimp only; rw [hOk]; exact hol2⟩ (by dsimp only; omega)
    · repeat' first
        | refine k_then ?_ | refine c_seq ?_ | refine c_region ?_ | refine s_nil ?_ | refine s_move (by exact rfl) (by exact rfl) ?_ | refine s_assign (by exact rfl) (by exact rfl) ?_ | refine s_fa (by exact rfl) (by exact rfl) ?_ | refine s_ld_box (by exact rfl) (by exact rfl) (by exact .tail _ (.tail _ (.tail _ (.head _)))) (by exact rfl) ?_ | refine s_lss (by exact rfl) (by exact rfl) (by exact rfl) ?_ | refine s_add (by exact rfl) (by exact rfl) (by exact rfl) (by omega) ?_ | refine c_exit ?_ | refine k_then_exit ?_ | refine k_blk ?_ | refine k_blk_eq ?_ | (refine c_cond_p (by exact rfl) (fun h => ?_) (fun h => ?_) <;> try (exfalso; omega))
      obtain rfl : k = N := by omega
      refine c_round (u + 1, vo2, ho2, vm2) [0, 0, 0, 0] (by dsimp only; rw [hO1]; rfl) ⟨rfl, rfl, rfl, rfl, rfl, trivial⟩ ⟨by dsimp only; omega, by dsimp only; rw [hO1]; exact hol2⟩ (by dsimp only; omega)
  · repeat' first
      | refine k_then ?_ | refine c_seq ?_ | refine c_region ?_ | refine s_nil ?_ | refine s_move (by exact rfl) (by exact rfl) ?_ | refine s_assign (by exact rfl) (by exact rfl) ?_ | refine s_fa (by exact rfl) (by exact rfl) ?_ | refine s_ld_box (by exact rfl) (by exact rfl) (by exact .tail _ (.tail _ (.tail _ (.head _)))) (by exact rfl) ?_ | refine s_lss (by exact rfl) (by exact rfl) (by exact rfl) ?_ | refine c_exit ?_ | refine c_ret ?_ | refine k_then_exit ?_ | refine k_blk_eq ?_ | (refine c_cond_p (by exact rfl) (fun h => ?_) (fun h => ?_) <;> try (exfalso; omega))
    obtain rfl : u = N := by omega
    refine ret1 [0, 0] rfl rfl rfl ⟨ho, hol, rfl⟩
/-- lists of darts that are read -/
structure ROd (w : World) (S : FS) (v : Value) (hs : List Value) (F : List (List (Nat × Nat))) : Prop where
  shp : Shp v F.length
  len : hs.length = F.length
  ro : RO w S v hs
  kid : ∀ (i : Nat) h l, hs[i]? = some h → F[i]? = some l → Shp h l.length ∧ RO w S h (dsV l)
end Go.Proofs.YtpajjnkmaebhcabGreat
end
section
set_option linter.unusedVariables false
namespace Fil
/-- as the document says it: as many, and each neighbour among them -/
theorem rotB_iff {n : Int} {es : List E} {ls : List (List Int)} (hR : RightG n es) (v : Nat) : rotB n es ls v = true ↔ (ls.getD v []).length = (nearS (tn es) v).length ∧ ∀ u ∈ nearS (tn es) v, (u : Int) ∈ ls.getD v [] := by
  have hnd : (nearS (tn es) v).Nodup := (List.mergeSort_perm _ _).nodup_iff.2 (nb_nd hR.good (tn_nodup hR) v)
  have hnd2 : ((nearS (tn es) v).map fun (k : Nat) => (k : Int)).Nodup := by
    rw [List.Nodup, List.pairwise_map]
    exact hnd.imp fun h e => h (by omega)
  rw [rotB, decide_eq_true_iff]
  generalize ls.getD v [] = l
  constructor
  · intro h
    have hp := List.mergeSort_perm l fun x y => decide (x ≤ y)
    rw [h] at hp
    refine ⟨by simpa using hp.length_eq.symm, fun u hu => hp.mem_iff.1 (List.mem_map.2 ⟨u, hu, rfl⟩)⟩
  · rintro ⟨h1, h2⟩
    have hp : ((nearS (tn es) v).map fun (k : Nat) => (k : Int)).Perm l := perm_of_sub hnd2 (fun a ha => by
      obtain ⟨u, hu, rfl⟩ := List.mem_map.1 ha
      exact h2 u hu) (by simp [h1])
    have hq := (List.mergeSort_perm l fun x y => decide (x ≤ y)).trans hp.symm
    have s1 : (l.mergeSort fun x y => decide (x ≤ y)).Pairwise fun a b => a ≤ b :=
      (List.pairwise_mergeSort (fun a b c h1 h2 => by simp at *; omega) (fun a b => by simp; omega) l).imp fun h => by simpa using h
    have s2 : ((nearS (tn es) v).map fun (k : Nat) => (k : Int)).Pairwise fun a b => a ≤ b := by
      rw [List.pairwise_map]
      exact (List.pairwise_mergeSort (fun a b c h1 h2 => by simp at *; omega) (fun a b => by simp; omega) (nb (tn es) v)).imp fun h => by simp at h; omega
    exact hq.eq_of_pairwise (fun a b _ _ h1 h2 => by omega) s1 s2
end Fil
namespace Go.Proofs.YtpajjnkmaebhcabGreat
open Go.RowKit Go.Sl Fil
set_option maxRecDepth 100000
set_option maxHeartbeats 8000000
set_option linter.unusedVariables false
set_option linter.unusedSimpArgs false
attribute [local irreducible] Code.wp wpList bodyPost wpQuiet Exit.then Exit.inBlock Post wpAnyH wpOp
theorem refRotRight_ok (n : Int) (v : Value) (es : List E) (vr : Value) (hr0 : List Value) (ls : List (List Int)) (w : World) (hs : Shp v es.length) (hr : RO w No v (esV es)) (hm : es.length < 4611686018427387904) (hR : ROsI w No vr hr0 ls) :
    Calls Tryz.prog 37 #[.agg #[.int .i64 n, v], vr] w (Post w No (Just (.int .i64 (rotK n es ls)))) := by
  have hsr := hR.shp
  have hrr := hR.ro
  have hls := hsr.1
  simp only [maxLen] at hls
  refine enter0 (vs := [_, _]) Tryz.func37 rfl Tryz.ntmps37 rfl ?_
  repeat' first
    | refine k_then ?_ | refine c_seq ?_ | refine c_region ?_ | refine s_nil ?_ | refine s_assign (by exact rfl) (by exact rfl) ?_ | refine s_ldk_box (by exact rfl) (by exact rfl) (by exact .head _) (by exact rfl) (by exact rfl) ?_ | refine o_box (by exact rfl) (by exact rfl) (fun b => ?_)
  refine s_call (by exact rfl) (by exact rfl) (fun w h => refRight_ok n v es w hs (ro_old h hr) hm) ?_
  repeat' first
    | refine k_then ?_ | refine c_seq ?_ | refine c_region ?_ | refine s_nil ?_ | refine s_move (by exact rfl) (by exact rfl) ?_ | refine s_assign (by exact rfl) (by exact rfl) ?_ | refine s_fa (by exact rfl) (by exact rfl) ?_ | refine s_ld_box (by exact rfl) (by exact rfl) (by exact .head _) (by exact rfl) ?_ | refine s_neq (by exact rfl) (by exact rfl) (by exact rfl) ?_ | refine s_len (by exact rfl) (by exact rfl) (by assumption) ?_ | refine s_ldk_box (by exact rfl) (by exact rfl) (by exact .head _) (by exact rfl) (by exact rfl) ?_ | refine c_skip ?_ | refine c_ret ?_ | refine k_then_ret ?_ | (refine c_cond_p (by exact rfl) (fun h => ?_) (fun h => ?_) <;> try (exfalso; omega))
  · refine ret1 [] rfl rfl rfl ⟨?_, rfl⟩
    rw [rotK, if_pos h]
  · rename_i h0
    have h1 := h
    refine ret1 [] rfl rfl rfl ⟨?_, rfl⟩
    rw [rotK, if_neg h0, if_pos h1]
  rename_i h0
  have h1 := h
  have hRG := right_iff.1 (Classical.byContradiction h0)
  have hln : ls.length = n.toNat := by have := hRG.lo; omega
  refine o_call (by exact rfl) (by exact rfl) (fun w h => refNear_ok n v es w hs (ro_old h hr) hRG) ?_
  rintro vn _ ⟨hn, hnl, rfl⟩
  refine know_row (v := vn) (.head _) fun hvn _ => ?_
  repeat' first
    | refine k_then ?_ | refine c_seq ?_ | refine c_region ?_ | refine s_nil ?_ | refine s_assign (by exact rfl) (by exact rfl) ?_ | refine c_block ?_
  have hlo := hRG.lo
  have hhi := hRG.hi
  have hAl : ∀ x, (nearS (tn es) x).length ≤ 4194304 := fun x => by
    have h1 := nb_length (tn es) x
    have h2 := hRG.many
    simp only [nearS, List.length_mergeSort]
    simp only [tn, List.length_map] at h1
    simp only [tn]
    omega
  have hrotK : rotK n es ls = if (List.range n.toNat).all (rotB n es ls) then 0 else 12 := by rw [rotK, if_neg h0, if_neg h1]
  rw [hrotK]
  have hBd : ∀ x, rotB n es ls x = true ↔ (ls.getD x []).length = (nearS (tn es) x).length ∧ ∀ u ∈ nearS (tn es) x, (u : Int) ∈ ls.getD x [] := rotB_iff hRG
  generalize rotB n es ls = B at *
  generalize nearS (tn es) = A at *
  clear hrotK h1 h h0
  generalize hN : n.toNat = N at *
  have hnN : n = (N : Int) := by omega
  subst hnN
  have hbad : ∀ k, k < N → ¬ B k = true → (if (List.range N).all B then (0 : Int) else 12) = 12 := fun k hk hb => by
    rw [if_neg]
    intro hall
    exact hb (List.all_eq_true.1 hall k (List.mem_range.2 hk))
  refine c_loop (fun k : Nat => k ≤ N ∧ ∀ u, u < k → B u = true) (fun k => [(1, vr), (2, .pointer (some ⟨b, 0, none⟩)), (5, vn), (6, .int .i64 (k : Int))]) (fun _ => [rowHP vn 28 1 N hn, starHP (kids rowN hn ((List.range N).map A)), boxHP b 24 (Value.agg #[.int .i64 (N : Int), v]).cells.toList]) (fun k => N - k) 0 [0, 0, 0] ⟨Nat.zero_le _, by omega⟩ rfl ⟨rfl, rfl, rfl, rfl, trivial⟩ ?_
  rintro k ⟨hk, hq⟩
  by_cases hlt : k < N
  · obtain ⟨hx, hhx⟩ : ∃ x, hr0[k]? = some x := ⟨_, List.getElem?_eq_getElem (by have := hR.len; omega)⟩
    obtain ⟨l, hl⟩ : ∃ l, ls[k]? = some l := ⟨_, List.getElem?_eq_getElem (by omega)⟩
    obtain ⟨hsx, hrx⟩ := hR.kid k hx l hhx hl
    obtain ⟨hy, hhy⟩ : ∃ x, hn[k]? = some x := ⟨_, List.getElem?_eq_getElem (by omega)⟩
    have hAk : ((List.range N).map A)[k]? = some (A k) := by simp [hlt]
    have hgd : ls.getD k [] = l := by rw [List.getD_eq_getElem?_getD, hl]; rfl
    have h1' : hr0[k * 1]? = some hx := by rw [Nat.mul_one]; exact hhx
    have h2' : hn[k * 1]? = some hy := by rw [Nat.mul_one]; exact hhy
    have hAlk := hAl k
    have hros : ∀ w1, St w No [rowHP vn 28 1 N hn, starHP (kids rowN hn ((List.range N).map A)), boxHP b 24 (Value.agg #[.int .i64 (N : Int), v]).cells.toList] w1 → ROs w1 No vn hn ((List.range N).map A) := fun w1 h => ros_own h (.head _) (by simp) (.tail _ (.head _))
    have hkk : rowHP hy 3 1 (A k).length (nV (A k)) ∈ kids rowN hn ((List.range N).map A) := kids_mem (f := rowN) hhy hAk
    repeat' first
      | refine k_then ?_ | refine c_seq ?_ | refine c_region ?_ | refine s_nil ?_ | refine s_move (by exact rfl) (by exact rfl) ?_ | refine s_fa (by exact rfl) (by exact rfl) ?_ | refine s_ld_box (by exact rfl) (by exact rfl) (by exact .tail _ (.tail _ (.head _))) (by exact rfl) ?_ | refine s_lss (by exact rfl) (by exact rfl) (by exact rfl) ?_ | refine c_block ?_ | refine c_skip ?_ | (refine c_cond_p (by exact rfl) (fun h => ?_) (fun h => ?_) <;> try (exfalso; omega))
    refine know_kid (.tail _ (.head _)) hkk fun hsy _ => ?_
    refine p_begin0 [(0, true), (1, true), (2, true), (3, true), (4, true), (5, true), (6, true), (7, true), (8, true), (9, true), (10, true)] (by kernel_rfl) ?_
    repeat' first
      | refine p_nil ?_
      | (refine p_at (by exact rfl) ?_
         first
          | refine t_move (by exact rfl) (by exact rfl) (by exact fun _ h => h) ?_ | refine t_neq (by exact rfl) (by exact rfl) (by exact rfl) (by exact fun _ h => h) ?_ | refine t_len (by exact rfl) (by exact rfl) (by assumption) (by exact fun _ h => h) ?_ | refine t_idx (by exact rfl) (by exact rfl) (by exact rfl) (by assumption) (by first | assumption | omega) (by exact fun _ h => h) ?_ | refine t_ld_ro (by exact rfl) (by exact rfl) (by assumption) (by assumption) (by exact fun _ h => h) ?_ | refine t_ld_row (by exact rfl) (by exact rfl) (by exact .head _) (by assumption) (by exact fun _ h => h) ?_)
    have hBk := hBd k
    rw [hgd] at hBk
    repeat' first
      | refine k_then ?_ | refine c_seq ?_ | refine c_region ?_ | refine s_nil ?_ | refine s_assign (by exact rfl) (by exact rfl) ?_ | refine c_block ?_ | refine c_skip ?_ | refine c_ret ?_ | refine k_then_ret ?_ | refine k_blk_ret ?_ | (refine c_cond_p (by exact rfl) (fun h => ?_) (fun h => ?_) <;> try (exfalso; omega))
    · refine ret1 [] rfl rfl rfl ⟨?_, rfl⟩
      rw [hbad k hlt fun hb => by have := (hBk.1 hb).1; omega]
    refine c_loop (fun j : Nat => j ≤ (A k).length ∧ ∀ u ∈ (A k).take j, (u : Int) ∈ l) (fun j => [(1, vr), (2, .pointer (some ⟨b, 0, none⟩)), (5, vn), (6, .int .i64 (k : Int)), (7, .int .i64 (j : Int))]) (fun _ => [rowHP vn 28 1 N hn, starHP (kids rowN hn ((List.range N).map A)), boxHP b 24 (Value.agg #[.int .i64 (N : Int), v]).cells.toList]) (fun j => (A k).length - j) 0 [0, 0, 0] ⟨Nat.zero_le _, by simp⟩ rfl ⟨rfl, rfl, rfl, rfl, rfl, trivial⟩ ?_
    rintro j ⟨hj, hjq⟩
    by_cases hjl : j < (A k).length
    · have h3' := nV_get hjl
      repeat' first
        | refine k_then ?_ | refine c_seq ?_ | refine c_region ?_ | refine s_nil ?_ | refine s_move (by exact rfl) (by exact rfl) ?_ | refine s_lss (by exact rfl) (by exact rfl) (by exact rfl) ?_ | refine s_len (by exact rfl) (by exact rfl) (by assumption) ?_ | refine s_idx (by exact rfl) (by exact rfl) (by exact rfl) (by assumption) (by first | assumption | omega) ?_ | refine s_ld_row (by exact rfl) (by exact rfl) (by exact .head _) (by assumption) ?_ | refine c_block ?_ | refine c_skip ?_ | (refine c_cond_p (by exact rfl) (fun h => ?_) (fun h => ?_) <;> try (exfalso; omega))
      refine p_begin0 [(0, true), (1, true), (2, true), (3, true), (4, true), (5, true), (6, true), (7, true), (8, true), (9, true), (10, true), (11, false), (12, true)] (by kernel_rfl) ?_
      repeat' first
        | (refine p_at (by exact rfl) ?_
           first
            | refine t_move (by exact rfl) (by exact rfl) (by exact fun _ h => h) ?_ | refine t_idx (by exact rfl) (by exact rfl) (by exact rfl) (by assumption) (by first | assumption | omega) (by exact fun _ h => h) ?_ | refine t_ld_ro (by exact rfl) (by exact rfl) (by assumption) (by assumption) (by exact fun _ h => h) ?_ | refine t_ld_row (by exact rfl) (by exact rfl) (by exact .head _) (by assumption) (by exact fun _ h => h) ?_ | refine t_ld_kid (by exact rfl) (by exact rfl) (by assumption) (by exact .tail _ (.head _)) (by assumption) (by exact fun _ h => h) ?_)
      refine p_call (gd := none) (by exact rfl) rfl (by exact rfl) (fun w h => Has_ok hx l ((A k).getD j 0 : Nat) w hsx (ro_old h hrx)) (by exact fun _ h => h) ?_
      have hgj : (A k)[j]? = some ((A k).getD j 0) := by rw [List.getD_eq_getElem?_getD, List.getElem?_eq_getElem hjl]; rfl
      by_cases hin : ((A k).getD j 0 : Int) ∈ l
      · rw [decide_eq_true hin]
        repeat' first
          | refine p_nil ?_
          | (refine p_at (by exact rfl) ?_
             first
              | refine t_not (by exact rfl) (by exact rfl) (by exact fun _ h => h) ?_)
        repeat' first
          | refine k_then ?_ | refine c_region ?_ | refine s_nil ?_ | refine s_move (by exact rfl) (by exact rfl) ?_ | refine s_assign (by exact rfl) (by exact rfl) ?_ | refine s_add (by exact rfl) (by exact rfl) (by exact rfl) (by omega) ?_ | refine c_skip ?_ | refine k_blk ?_ | refine c_cond_f (by exact rfl) ?_
        refine c_round (j + 1) [0, 0, 0] (by exact rfl) (by exact ⟨rfl, rfl, rfl, rfl, rfl, trivial⟩) ⟨by omega, fun u hu => ?_⟩ (by omega)
        rw [List.take_add_one, hgj] at hu
        rcases List.mem_append.1 hu with hu | hu
        · exact hjq u hu
        · obtain rfl : u = (A k).getD j 0 := by simpa using hu
          exact hin
      · rw [decide_eq_false hin]
        repeat' first
          | refine p_nil ?_
          | (refine p_at (by exact rfl) ?_
             first
              | refine t_not (by exact rfl) (by exact rfl) (by exact fun _ h => h) ?_)
        repeat' first
          | refine k_then ?_ | refine c_seq ?_ | refine c_region ?_ | refine s_nil ?_ | refine s_assign (by exact rfl) (by exact rfl) ?_ | refine c_ret ?_ | refine k_then_ret ?_ | refine k_blk_ret ?_ | refine c_cond_t (by exact rfl) ?_
        refine ret1 [] rfl rfl rfl ⟨?_, rfl⟩
        rw [hbad k hlt fun hb => hin ((hBk.1 hb).2 _ (List.mem_of_getElem? hgj))]
    · repeat' first
        | refine k_then ?_ | refine c_seq ?_ | refine c_region ?_ | refine s_nil ?_ | refine s_move (by exact rfl) (by exact rfl) ?_ | refine s_assign (by exact rfl) (by exact rfl) ?_ | refine s_lss (by exact rfl) (by exact rfl) (by exact rfl) ?_ | refine s_add (by exact rfl) (by exact rfl) (by exact rfl) (by omega) ?_ | refine s_len (by exact rfl) (by exact rfl) (by assumption) ?_ | refine s_idx (by exact rfl) (by exact rfl) (by exact rfl) (by assumption) (by first | assumption | omega) ?_ | refine s_ld_row (by exact rfl) (by exact rfl) (by exact .head _) (by assumption) ?_ | refine c_exit ?_ | refine k_then_exit ?_ | refine k_blk ?_ | refine k_blk_eq ?_ | (refine c_cond_p (by exact rfl) (fun h => ?_) (fun h => ?_) <;> try (exfalso; omega))
      rw [List.take_of_length_le (by omega)] at hjq
      refine c_round (k + 1) [0, 0, 0] (by exact rfl) (by exact ⟨rfl, rfl, rfl, rfl, trivial⟩) ⟨by omega, fun u hu => ?_⟩ (by omega)
      by_cases e : u = k
      · rw [e]; exact hBk.2 ⟨by omega, hjq⟩
      · exact hq u (by omega)
  · repeat' first
      | refine k_then ?_ | refine c_seq ?_ | refine c_region ?_ | refine s_nil ?_ | refine s_move (by exact rfl) (by exact rfl) ?_ | refine s_assign (by exact rfl) (by exact rfl) ?_ | refine s_fa (by exact rfl) (by exact rfl) ?_ | refine s_ld_box (by exact rfl) (by exact rfl) (by exact .tail _ (.tail _ (.head _))) (by exact rfl) ?_ | refine s_lss (by exact rfl) (by exact rfl) (by exact rfl) ?_ | refine c_exit ?_ | refine c_ret ?_ | refine k_then_exit ?_ | refine k_blk_eq ?_ | (refine c_cond_p (by exact rfl) (fun h => ?_) (fun h => ?_) <;> try (exfalso; omega))
    refine ret1 [] rfl rfl rfl ⟨?_, rfl⟩
    rw [if_pos]
    rw [List.all_eq_true]
    intro u hu
    exact hq u (by have := List.mem_range.1 hu; omega)
end Go.Proofs.YtpajjnkmaebhcabGreat
end
section
set_option linter.unusedVariables false
namespace Go.Proofs.YtpajjnkmaebhcabGreat
open Go Go.RowKit Go.Sl Fil
set_option maxRecDepth 100000
set_option maxHeartbeats 8000000
set_option linter.unusedVariables false
set_option linter.unusedSimpArgs false
attribute [local irreducible] Code.wp wpList bodyPost wpQuiet Exit.then Exit.inBlock Post wpAnyH wpOp
theorem HasI_ok (v : Value) (l : List Nat) (i : Int) (w : World) (hi : i = (i.toNat : Int)) (hs : Shp v l.length) (hr : RO w No v (nV l)) :
    Calls Tryz.prog 47 #[v, .int .i64 i] w (Post w No (Just (.bool (decide (i.toNat ∈ l))))) := by
  have h := HasN_ok v l i.toNat w hs hr
  rwa [← hi] at h
theorem refEuler_ok (n : Int) (v : Value) (es : List E) (vr : Value) (hr0 : List Value) (R : List (List Nat)) (o lab : Nat → Nat) (w : World) (hs : Shp v es.length) (hr : RO w No v (esV es)) (hG : RightG n es) (hR : ROs w No vr hr0 R) (hRot : RotL n.toNat (tn es) R) (hL : Lev n.toNat (nb (tn es)) o lab) :
    Calls Tryz.prog 38 #[.agg #[.int .i64 n, v], vr] w (Post w No fun r L' => L' = [rowHP r 3 1 (eulerL n.toNat (tn es) lab (facesR n.toNat (tn es) R)).length (iV (eulerL n.toNat (tn es) lab (facesR n.toNat (tn es) R)))]) := by
  have hsr := hR.shp
  have hrr := hR.ro
  have hlo := hG.lo
  have hhi := hG.hi
  have hmany := hG.many
  refine enter0 (vs := [_, _]) Tryz.func38 rfl Tryz.ntmps38 rfl ?_
  repeat' first
    | refine k_then ?_ | refine c_seq ?_ | refine c_region ?_ | refine s_nil ?_ | refine s_assign (by exact rfl) (by exact rfl) ?_ | refine s_ldk_box (by exact rfl) (by exact rfl) (by exact .head _) (by exact rfl) (by exact rfl) ?_ | refine o_box (by exact rfl) (by exact rfl) (fun b => ?_)
  revert b; intro bg
  refine o_call (by exact rfl) (by exact rfl) (fun w h => refComps_ok n v es o lab w hs (ro_old h hr) hG hL) ?_
  rintro vc _ ⟨hc, hcl, rfl⟩
  refine know_row (v := vc) (.head _) fun hvc _ => ?_
  repeat' first
    | refine k_then ?_ | refine c_seq ?_ | refine c_region ?_ | refine s_nil ?_ | refine s_move (by exact rfl) (by exact rfl) ?_ | refine s_assign (by exact rfl) (by exact rfl) ?_ | refine s_ldk_box (by exact rfl) (by exact rfl) (by exact .tail _ (.tail _ (.head _))) (by exact rfl) (by exact rfl) ?_
  refine o_call (by exact rfl) (by exact rfl) (fun w h => refFaces_ok n v es vr hr0 R w hs (ro_old h hr) hG (ros_old h hR) hRot) ?_
  rintro vf _ ⟨hf, hfl, rfl⟩
  refine know_row (v := vf) (.head _) fun hvf _ => ?_
  have hcN : (compsS n.toNat lab).length ≤ n.toNat := compsI_length _ _ lab
  have hdec := facesR_dec hG hRot
  have hFne : ∀ f ∈ facesR n.toNat (tn es) R, ∃ d t, f = d :: t ∧ d.1 < n.toNat := fun f hf => by
    cases f with
    | nil => exact absurd rfl (hdec.cy _ hf).1
    | cons d t => exact ⟨d, t, rfl, (dart_lt hG (hdec.perm.mem_iff.1 (List.mem_flatten.2 ⟨_, hf, .head _⟩))).1⟩
  have hFl : (facesR n.toNat (tn es) R).length ≤ 2 * es.length := by
    have h1 := flat_le (C := facesR n.toNat (tn es) R) fun f hf => (hdec.cy f hf).1
    have h2 := hdec.perm.length_eq
    rw [dartsAll_length hG] at h2
    omega
  have hcl2 : ∀ c ∈ compsS n.toNat lab, c.length ≤ n.toNat := fun c hc => by
    obtain ⟨r, h1, h2, rfl⟩ := comp_mem hc
    have := List.length_filter_le (fun u => lab u == r) (List.range n.toNat); simpa using this
  have hK : ∀ c ∈ compsS n.toNat lab, eulerK (tn es) (facesR n.toNat (tn es) R) c = (c.length : Int) - (((tn es).filter fun e => decide (e.1 ∈ c)).length : Int) + (((facesR n.toNat (tn es) R).filter fun f => decide ((f.headD (0, 0)).1 ∈ c)).length : Int) + if ((tn es).filter fun e => decide (e.1 ∈ c)).length = 0 then 1 else 0 := fun c hc => by
    rw [eulerK]
    by_cases h1 : c.length = 1
    · rw [if_pos h1, (single hG hRot hL hc h1).2, h1]
      simp; omega
    · rw [if_neg h1, if_neg fun h => edge_of hG hRot hL hc h1 (List.eq_nil_of_length_eq_zero h)]
      omega
  have hfe : ∀ (c : List Nat) (k : Nat), ((((tn es).take k).filter fun e => decide (e.1 ∈ c)).length) ≤ k := fun c k => by
    have := List.length_filter_le (fun e : Nat × Nat => decide (e.1 ∈ c)) ((tn es).take k)
    rw [List.length_take] at this; omega
  have hff : ∀ (c : List Nat) (k : Nat), ((((facesR n.toNat (tn es) R).take k).filter fun f => decide ((f.headD (0, 0)).1 ∈ c)).length) ≤ k := fun c k => by
    have := List.length_filter_le (fun f : List (Nat × Nat) => decide ((f.headD (0, 0)).1 ∈ c)) ((facesR n.toNat (tn es) R).take k)
    rw [List.length_take] at this; omega
  unfold eulerL
  generalize facesR n.toNat (tn es) R = Fs at *
  generalize compsS n.toNat lab = cs at *
  rw [List.length_map]
  refine c_nil 3 1 ?_
  repeat' first
    | refine k_then ?_ | refine c_seq ?_ | refine c_region ?_ | refine s_nil ?_ | refine s_assign (by exact rfl) (by exact rfl) ?_ | refine c_block ?_
  refine c_loop (fun x : Nat × Value => x.1 ≤ cs.length) (fun x => [(1, vr), (2, .pointer (some ⟨bg, 0, none⟩)), (5, vc), (6, vf), (7, x.2), (8, .int .i64 (x.1 : Int))])
    (fun x => [rowHP x.2 3 1 x.1 (iV ((cs.take x.1).map (eulerK (tn es) Fs))), rowHP vf 101 1 Fs.length hf, starHP (kids rowD hf Fs), rowHP vc 28 1 cs.length hc, starHP (kids rowN hc cs), boxHP bg 24 [.int .i64 n, v]])
    (fun x => cs.length - x.1) (0, .slice none 0 0) [0, 0, 0, 0, 0, 0] (Nat.zero_le _) (by exact rfl) ⟨rfl, rfl, rfl, rfl, rfl, rfl, trivial⟩ ?_
  rintro ⟨i, vo⟩ hi
  dsimp only at hi ⊢
  by_cases hil : i < cs.length
  · obtain ⟨c, hci⟩ : ∃ c, cs[i]? = some c := ⟨_, List.getElem?_eq_getElem hil⟩
    obtain ⟨hd, hhd⟩ : ∃ hd, hc[i]? = some hd := ⟨_, List.getElem?_eq_getElem (by omega)⟩
    have hhd1 : hc[i * 1]? = some hd := by rw [Nat.mul_one]; exact hhd
    have hcm := List.mem_of_getElem? hci
    have hcl3 := hcl2 c hcm
    have hKc := hK c hcm
    have hfec := hfe c
    have hffc := hff c
    have hkd : rowHP hd 3 1 c.length (nV c) ∈ kids rowN hc cs := kids_mem (f := rowN) hhd hci
    repeat' first
      | refine k_then ?_ | refine c_seq ?_ | refine c_region ?_ | refine s_nil ?_ | refine s_move (by exact rfl) (by exact rfl) ?_ | refine s_lss (by exact rfl) (by exact rfl) (by exact rfl) ?_ | refine s_len (by exact rfl) (by exact rfl) (by assumption) ?_ | refine s_idx (by exact rfl) (by exact rfl) (by exact rfl) (by assumption) (by first | assumption | omega) ?_ | refine s_ld_row (by exact rfl) (by exact rfl) (by exact .tail _ (.tail _ (.tail _ (.head _)))) (by assumption) ?_ | refine c_block ?_ | refine c_skip ?_ | (refine c_cond_p (by exact rfl) (fun h => ?_) (fun h => ?_) <;> try (exfalso; omega))
    refine know_kid (by exact .tail _ (.tail _ (.tail _ (.tail _ (.head _))))) hkd fun hsd _ => ?_
    repeat' first
      | refine k_then ?_ | refine c_seq ?_ | refine c_region ?_ | refine s_nil ?_ | refine s_assign (by exact rfl) (by exact rfl) ?_ | refine s_len (by exact rfl) (by exact rfl) (by assumption) ?_ | refine c_block ?_
    refine c_loop (fun k : Nat => k ≤ es.length) (fun k => [(1, vr), (2, .pointer (some ⟨bg, 0, none⟩)), (5, vc), (6, vf), (7, vo), (8, .int .i64 (i : Int)), (9, .int .i64 (c.length : Int)), (10, .int .i64 (((((tn es).take k).filter fun e => decide (e.1 ∈ c)).length : Nat) : Int)), (11, .int .i64 (k : Int))])
      (fun k => [rowHP vo 3 1 i (iV ((cs.take i).map (eulerK (tn es) Fs))), rowHP vf 101 1 Fs.length hf, starHP (kids rowD hf Fs), rowHP vc 28 1 cs.length hc, starHP (kids rowN hc cs), boxHP bg 24 [.int .i64 n, v]])
      (fun k => es.length - k) 0 [0, 0, 0, 0, 0, 0] (Nat.zero_le _) (by exact rfl) ⟨rfl, rfl, rfl, rfl, rfl, rfl, rfl, rfl, rfl, trivial⟩ ?_
    rintro k hk
    have hfk := hfec k
    by_cases hkl : k < es.length
    · obtain ⟨e, he⟩ : ∃ e, es[k]? = some e := ⟨_, List.getElem?_eq_getElem hkl⟩
      obtain ⟨o1, o2, o3, o4, _⟩ := hG.ok e (List.mem_of_getElem? he)
      have het : (tn es)[k]? = some (e.1.toNat, e.2.1.toNat) := by rw [tn, List.getElem?_map, he]; rfl
      have hcnt := fcount (fun e : Nat × Nat => decide (e.1 ∈ c)) het
      have hE0 : (esV es)[k * 3 + 0]? = some (.int .i64 e.1) := (esV_get he).1
      repeat' first
        | refine k_then ?_ | refine c_seq ?_ | refine c_region ?_ | refine s_nil ?_ | refine s_move (by exact rfl) (by exact rfl) ?_ | refine s_fa (by exact rfl) (by exact rfl) ?_ | refine s_ld_box (by exact rfl) (by exact rfl) (by exact .tail _ (.tail _ (.tail _ (.tail _ (.tail _ (.head _)))))) (by exact rfl) ?_ | refine s_lss (by exact rfl) (by exact rfl) (by exact rfl) ?_ | refine s_len (by exact rfl) (by exact rfl) (by assumption) ?_ | refine c_block ?_ | refine c_skip ?_ | (refine c_cond_p (by exact rfl) (fun h => ?_) (fun h => ?_) <;> try (exfalso; omega))
      refine p_begin0 [(0, true), (1, true), (2, true), (3, true), (4, true), (5, true), (6, true), (7, true), (8, true), (9, true), (10, false)] (by kernel_rfl) ?_
      repeat' first
        | (refine p_at (by exact rfl) ?_
           first
            | refine t_move (by exact rfl) (by exact rfl) (by exact fun _ h => h) ?_ | refine t_fa (by exact rfl) (by exact rfl) (by exact fun _ h => h) ?_ | refine t_ld_box (by exact rfl) (by exact rfl) (by exact .tail _ (.tail _ (.tail _ (.tail _ (.tail _ (.head _)))))) (by exact rfl) (by exact fun _ h => h) ?_ | refine t_idx (by exact rfl) (by exact rfl) (by exact rfl) (by assumption) (by first | assumption | omega) (by exact fun _ h => h) ?_ | refine t_fap (by exact rfl) (by exact rfl) (by assumption) (by omega) (by exact fun _ h => h) ?_ | refine t_ld_ro (by exact rfl) (by exact rfl) (by assumption) (by assumption) (by exact fun _ h => h) ?_ | refine t_ld_row (by exact rfl) (by exact rfl) (by exact .tail _ (.tail _ (.tail _ (.head _)))) (by assumption) (by exact fun _ h => h) ?_)
      refine p_call (gd := none) (by exact rfl) rfl (by exact rfl) (fun w h => HasI_ok hd c e.1 w (by omega) hsd (ro_kid h (by exact .tail _ (.tail _ (.tail _ (.tail _ (.head _))))) hkd)) (by exact fun _ h => h) ?_
      by_cases hin : e.1.toNat ∈ c
      · rw [decide_eq_true hin]
        rw [if_pos (decide_eq_true hin)] at hcnt
        have hc1 : (((((tn es).take (k + 1)).filter fun e => decide (e.1 ∈ c)).length : Nat) : Int) = (((((tn es).take k).filter fun e => decide (e.1 ∈ c)).length : Nat) : Int) + 1 := by rw [hcnt]; rfl
        repeat' first
          | refine p_nil ?_
        repeat' first
          | refine k_then ?_ | refine c_region ?_ | refine s_nil ?_ | refine s_move (by exact rfl) (by exact rfl) ?_ | refine s_assign (by exact rfl) (by exact rfl) ?_ | refine s_add (by exact rfl) (by exact rfl) (by exact rfl) (by omega) ?_ | refine k_blk ?_ | refine c_cond_t (by exact rfl) ?_
        refine c_round (k + 1) [0, 0, 0, 0, 0, 0] (by exact rfl) (by rw [hc1]; exact ⟨rfl, rfl, rfl, rfl, rfl, rfl, rfl, rfl, rfl, trivial⟩) (by omega) (by omega)
      · rw [decide_eq_false hin]
        rw [if_neg (by simpa using hin)] at hcnt
        have hc1 : ((((tn es).take (k + 1)).filter fun e => decide (e.1 ∈ c)).length) = ((((tn es).take k).filter fun e => decide (e.1 ∈ c)).length) := hcnt
        repeat' first
          | refine p_nil ?_
        repeat' first
          | refine k_then ?_ | refine c_region ?_ | refine s_nil ?_ | refine s_move (by exact rfl) (by exact rfl) ?_ | refine s_assign (by exact rfl) (by exact rfl) ?_ | refine s_add (by exact rfl) (by exact rfl) (by exact rfl) (by omega) ?_ | refine c_skip ?_ | refine k_blk ?_ | refine c_cond_f (by exact rfl) ?_
        refine c_round (k + 1) [0, 0, 0, 0, 0, 0] (by exact rfl) (by rw [hc1]; exact ⟨rfl, rfl, rfl, rfl, rfl, rfl, rfl, rfl, rfl, trivial⟩) (by omega) (by omega)
    · have hkk : k = (tn es).length := by rw [tn_len]; omega
      rw [hkk, List.take_length] at hfk ⊢
      generalize hce : ((tn es).filter fun e => decide (e.1 ∈ c)).length = ce at *
      rw [tn_len] at hfk
      repeat' first
        | refine k_then ?_ | refine c_seq ?_ | refine c_region ?_ | refine s_nil ?_ | refine s_move (by exact rfl) (by exact rfl) ?_ | refine s_assign (by exact rfl) (by exact rfl) ?_ | refine s_fa (by exact rfl) (by exact rfl) ?_ | refine s_ld_box (by exact rfl) (by exact rfl) (by exact .tail _ (.tail _ (.tail _ (.tail _ (.tail _ (.head _)))))) (by exact rfl) ?_ | refine s_lss (by exact rfl) (by exact rfl) (by exact rfl) ?_ | refine s_sub (by exact rfl) (by exact rfl) (by exact rfl) (by omega) ?_ | refine s_len (by exact rfl) (by exact rfl) (by assumption) ?_ | refine c_block ?_ | refine c_exit ?_ | refine k_then_exit ?_ | refine k_blk_eq ?_ | (refine c_cond_p (by exact rfl) (fun h => ?_) (fun h => ?_) <;> try (exfalso; omega))
      refine c_loop (fun j : Nat => j ≤ Fs.length) (fun j => [(1, vr), (2, .pointer (some ⟨bg, 0, none⟩)), (5, vc), (6, vf), (7, vo), (8, .int .i64 (i : Int)), (9, .int .i64 ((c.length : Int) - (ce : Int) + ((((Fs.take j).filter fun f => decide ((f.headD (0, 0)).1 ∈ c)).length : Nat) : Int))), (10, .int .i64 (ce : Int)), (12, .int .i64 (j : Int))])
        (fun j => [rowHP vo 3 1 i (iV ((cs.take i).map (eulerK (tn es) Fs))), rowHP vf 101 1 Fs.length hf, starHP (kids rowD hf Fs), rowHP vc 28 1 cs.length hc, starHP (kids rowN hc cs), boxHP bg 24 [.int .i64 n, v]])
        (fun j => Fs.length - j) 0 [0, 0, 0, 0, 0, 0] (Nat.zero_le _) (by exact rfl) (by simp only [List.take_zero, List.filter_nil, List.length_nil, Int.natCast_zero, Int.add_zero]; exact ⟨rfl, rfl, rfl, rfl, rfl, rfl, rfl, rfl, rfl, trivial⟩) ?_
      rintro j hj
      have hfj := hffc j
      by_cases hjl : j < Fs.length
      · obtain ⟨f, hf1⟩ : ∃ f, Fs[j]? = some f := ⟨_, List.getElem?_eq_getElem hjl⟩
        obtain ⟨hd2, hhd2⟩ : ∃ hd, hf[j]? = some hd := ⟨_, List.getElem?_eq_getElem (by omega)⟩
        have hhd3 : hf[j * 1]? = some hd2 := by rw [Nat.mul_one]; exact hhd2
        obtain ⟨d, t, rfl, hdN⟩ := hFne f (List.mem_of_getElem? hf1)
        have hcnt := fcount (fun f : List (Nat × Nat) => decide ((f.headD (0, 0)).1 ∈ c)) hf1
        have hkd2 : rowHP hd2 100 2 (d :: t).length (dsV (d :: t)) ∈ kids rowD hf Fs := kids_mem (f := rowD) hhd2 hf1
        have hd0 : (dsV (d :: t))[0 * 2 + 0]? = some (.int .i64 (d.1 : Int)) := rfl
        have hpos : 0 < (d :: t).length := by simp
        repeat' first
          | refine k_then ?_ | refine c_seq ?_ | refine c_region ?_ | refine s_nil ?_ | refine s_move (by exact rfl) (by exact rfl) ?_ | refine s_lss (by exact rfl) (by exact rfl) (by exact rfl) ?_ | refine s_len (by exact rfl) (by exact rfl) (by assumption) ?_ | refine c_block ?_ | refine c_skip ?_ | (refine c_cond_p (by exact rfl) (fun h => ?_) (fun h => ?_) <;> try (exfalso; omega))
        refine know_kid (by exact .tail _ (.tail _ (.head _))) hkd2 fun hsd2 _ => ?_
        refine p_begin0 [(0, true), (1, true), (2, true), (3, true), (4, true), (5, true), (6, true), (7, true), (8, true), (9, true), (10, true), (11, false)] (by kernel_rfl) ?_
        repeat' first
          | (refine p_at (by exact rfl) ?_
             first
              | refine t_move (by exact rfl) (by exact rfl) (by exact fun _ h => h) ?_ | refine t_idx (by exact rfl) (by exact rfl) (by exact rfl) (by assumption) (by first | assumption | omega) (by exact fun _ h => h) ?_ | refine t_fap (by exact rfl) (by exact rfl) (by assumption) (by omega) (by exact fun _ h => h) ?_ | refine t_ld_row (by exact rfl) (by exact rfl) (by first | exact .tail _ (.head _) | exact .tail _ (.tail _ (.tail _ (.head _)))) (by assumption) (by exact fun _ h => h) ?_ | refine t_ld_kid (by exact rfl) (by exact rfl) (by assumption) (by exact .tail _ (.tail _ (.head _))) (by assumption) (by exact fun _ h => h) ?_)
        refine p_call (gd := none) (by exact rfl) rfl (by exact rfl) (fun w h => HasN_ok hd c d.1 w hsd (ro_kid h (by exact .tail _ (.tail _ (.tail _ (.tail _ (.head _))))) hkd)) (by exact fun _ h => h) ?_
        by_cases hin : d.1 ∈ c
        · rw [decide_eq_true hin]
          rw [if_pos (by simpa using hin)] at hcnt
          have hc1 : (c.length : Int) - (ce : Int) + (((((Fs.take (j + 1)).filter fun f => decide ((f.headD (0, 0)).1 ∈ c)).length : Nat) : Int)) = (c.length : Int) - (ce : Int) + (((((Fs.take j).filter fun f => decide ((f.headD (0, 0)).1 ∈ c)).length : Nat) : Int)) + 1 := by rw [hcnt]; omega
          repeat' first
            | refine p_nil ?_
          repeat' first
            | refine k_then ?_ | refine c_region ?_ | refine s_nil ?_ | refine s_move (by exact rfl) (by exact rfl) ?_ | refine s_assign (by exact rfl) (by exact rfl) ?_ | refine s_add (by exact rfl) (by exact rfl) (by exact rfl) (by omega) ?_ | refine k_blk ?_ | refine c_cond_t (by exact rfl) ?_
          refine c_round (j + 1) [0, 0, 0, 0, 0, 0] (by exact rfl) (by rw [hc1]; exact ⟨rfl, rfl, rfl, rfl, rfl, rfl, rfl, rfl, rfl, trivial⟩) (by omega) (by omega)
        · rw [decide_eq_false hin]
          rw [if_neg (by simpa using hin), Nat.add_zero] at hcnt
          repeat' first
            | refine p_nil ?_
          repeat' first
            | refine k_then ?_ | refine c_region ?_ | refine s_nil ?_ | refine s_move (by exact rfl) (by exact rfl) ?_ | refine s_assign (by exact rfl) (by exact rfl) ?_ | refine s_add (by exact rfl) (by exact rfl) (by exact rfl) (by omega) ?_ | refine c_skip ?_ | refine k_blk ?_ | refine c_cond_f (by exact rfl) ?_
          refine c_round (j + 1) [0, 0, 0, 0, 0, 0] (by exact rfl) (by rw [hcnt]; exact ⟨rfl, rfl, rfl, rfl, rfl, rfl, rfl, rfl, rfl, trivial⟩) (by omega) (by omega)
      · obtain rfl : j = Fs.length := by omega
        rw [List.take_length] at hfj ⊢
        have htk : (cs.take (i + 1)).map (eulerK (tn es) Fs) = (cs.take i).map (eulerK (tn es) Fs) ++ [eulerK (tn es) Fs c] := by rw [List.take_add_one, hci, List.map_append]; rfl
        rw [hKc] at htk
        generalize (Fs.filter fun f => decide ((f.headD (0, 0)).1 ∈ c)).length = cf at *
        by_cases h0 : ce = 0
        · rw [if_pos h0] at htk
          repeat' first
            | refine k_then ?_ | refine c_seq ?_ | refine c_region ?_ | refine s_nil ?_ | refine s_move (by exact rfl) (by exact rfl) ?_ | refine s_assign (by exact rfl) (by exact rfl) ?_ | refine s_lss (by exact rfl) (by exact rfl) (by exact rfl) ?_ | refine s_eql (by exact rfl) (by exact rfl) (by exact rfl) ?_ | refine s_add (by exact rfl) (by exact rfl) (by exact rfl) (by omega) ?_ | refine s_len (by exact rfl) (by exact rfl) (by assumption) ?_ | refine c_exit ?_ | refine k_then_exit ?_ | refine k_blk_eq ?_ | (refine c_cond_p (by exact rfl) (fun h => ?_) (fun h => ?_) <;> try (exfalso; omega))
          refine o_mk [.int .i64 ((c.length : Int) - (ce : Int) + (cf : Int) + 1)] (by exact rfl) (by exact rfl) rfl ?_ ?_ (by simp) fun vt hvt => ?_
          · simp [Value.cells]
          · simp
          skip
          refine o_append_row (i := 1) (by exact rfl) (by exact rfl) (by exact rfl) (by exact rfl) (by exact .head _) (by exact rfl) (by simp [Value.cells, Value.oneCell']) (by omega) fun vy hvy => ?_
          repeat' first
            | refine k_then ?_ | refine c_region ?_ | refine s_nil ?_ | refine s_move (by exact rfl) (by exact rfl) ?_ | refine s_assign (by exact rfl) (by exact rfl) ?_ | refine s_add (by exact rfl) (by exact rfl) (by exact rfl) (by omega) ?_ | refine k_blk ?_
          refine c_round (i + 1, vy) [1, 1, 1, 1, 1, 1] ?_ ⟨rfl, rfl, rfl, rfl, rfl, rfl, trivial⟩ (by dsimp only; omega) (by dsimp only; omega)
          dsimp only
          rw [htk, show ∀ a b : List Int, iV (a ++ b) = iV a ++ iV b from fun a b => by simp [iV]]
          rfl
        · rw [if_neg h0, Int.add_zero] at htk
          repeat' first
            | refine k_then ?_ | refine c_seq ?_ | refine c_region ?_ | refine s_nil ?_ | refine s_move (by exact rfl) (by exact rfl) ?_ | refine s_lss (by exact rfl) (by exact rfl) (by exact rfl) ?_ | refine s_eql (by exact rfl) (by exact rfl) (by exact rfl) ?_ | refine s_len (by exact rfl) (by exact rfl) (by assumption) ?_ | refine c_skip ?_ | refine c_exit ?_ | refine k_then_exit ?_ | refine k_blk_eq ?_ | (refine c_cond_p (by exact rfl) (fun h => ?_) (fun h => ?_) <;> try (exfalso; omega))
          refine o_mk [.int .i64 ((c.length : Int) - (ce : Int) + (cf : Int))] (by exact rfl) (by exact rfl) rfl ?_ ?_ (by simp) fun vt hvt => ?_
          · simp [Value.cells]
          · simp
          skip
          refine o_append_row (i := 1) (by exact rfl) (by exact rfl) (by exact rfl) (by exact rfl) (by exact .head _) (by exact rfl) (by simp [Value.cells, Value.oneCell']) (by omega) fun vy hvy => ?_
          repeat' first
            | refine k_then ?_ | refine c_region ?_ | refine s_nil ?_ | refine s_move (by exact rfl) (by exact rfl) ?_ | refine s_assign (by exact rfl) (by exact rfl) ?_ | refine s_add (by exact rfl) (by exact rfl) (by exact rfl) (by omega) ?_ | refine k_blk ?_
          refine c_round (i + 1, vy) [1, 1, 1, 1, 1, 1] ?_ ⟨rfl, rfl, rfl, rfl, rfl, rfl, trivial⟩ (by dsimp only; omega) (by dsimp only; omega)
          dsimp only
          rw [htk, show ∀ a b : List Int, iV (a ++ b) = iV a ++ iV b from fun a b => by simp [iV]]
          rfl
  · repeat' first
      | refine k_then ?_ | refine c_seq ?_ | refine c_region ?_ | refine s_nil ?_ | refine s_move (by exact rfl) (by exact rfl) ?_ | refine s_assign (by exact rfl) (by exact rfl) ?_ | refine s_lss (by exact rfl) (by exact rfl) (by exact rfl) ?_ | refine s_len (by exact rfl) (by exact rfl) (by assumption) ?_ | refine c_exit ?_ | refine c_ret ?_ | refine k_then_exit ?_ | refine k_blk_eq ?_ | (refine c_cond_p (by exact rfl) (fun h => ?_) (fun h => ?_) <;> try (exfalso; omega))
    obtain rfl : i = cs.length := by omega
    rw [List.take_length]
    refine ret1 [0] rfl rfl rfl rfl
theorem refPlane_ok (n : Int) (v : Value) (es : List E) (vr : Value) (hr0 : List Value) (R : List (List Nat)) (o lab : Nat → Nat) (w : World) (hs : Shp v es.length) (hr : RO w No v (esV es)) (hG : RightG n es) (hR : ROs w No vr hr0 R) (hRot : RotL n.toNat (tn es) R) (hL : Lev n.toNat (nb (tn es)) o lab) :
    Calls Tryz.prog 13 #[.agg #[.int .i64 n, v], vr] w (Post w No (Just (.int .i64 (planeR n.toNat (tn es) lab R)))) := by
  have hmany := hG.many
  have hsr := hR.shp
  have hrr := hR.ro
  refine enter0 (vs := [_, _]) Tryz.func13 rfl Tryz.ntmps13 rfl ?_
  repeat' first
    | refine k_then ?_ | refine c_seq ?_ | refine c_region ?_ | refine s_nil ?_ | refine s_move (by exact rfl) (by exact rfl) ?_ | refine s_assign (by exact rfl) (by exact rfl) ?_ | refine s_ldk_box (by exact rfl) (by exact rfl) (by exact .head _) (by exact rfl) (by exact rfl) ?_ | refine o_box (by exact rfl) (by exact rfl) (fun b => ?_)
  revert b; intro bg
  refine s_call (by exact rfl) (by exact rfl) (fun w h => refRotRight_ok n v es vr hr0 (intL R) w hs (ro_old h hr) (by omega) (rosI_old h hR.int)) ?_
  rw [rot_zero hG hRot]
  repeat' first
    | refine k_then ?_ | refine c_seq ?_ | refine c_region ?_ | refine s_nil ?_ | refine s_move (by exact rfl) (by exact rfl) ?_ | refine s_assign (by exact rfl) (by exact rfl) ?_ | refine s_neq (by exact rfl) (by exact rfl) (by exact rfl) ?_ | refine s_ldk_box (by exact rfl) (by exact rfl) (by exact .head _) (by exact rfl) (by exact rfl) ?_ | refine c_skip ?_ | (refine c_cond_p (by exact rfl) (fun h => ?_) (fun h => ?_) <;> try (exfalso; omega))
  refine o_call (by exact rfl) (by exact rfl) (fun w h => refEuler_ok n v es vr hr0 R o lab w hs (ro_old h hr) hG (ros_old h hR) hRot hL) ?_
  rintro vo _ rfl
  refine know_row (v := vo) (.head _) fun hvo _ => ?_
  unfold planeR
  generalize eulerL n.toNat (tn es) lab (facesR n.toNat (tn es) R) = l at *
  have hlm := hvo.1
  simp only [maxLen] at hlm
  repeat' first
    | refine k_then ?_ | refine c_seq ?_ | refine c_region ?_ | refine s_nil ?_ | refine s_assign (by exact rfl) (by exact rfl) ?_ | refine c_block ?_
  refine c_loop (fun k : Nat => k ≤ l.length ∧ ∀ x ∈ l.take k, x = 2) (fun k => [(6, vo), (7, .int .i64 (k : Int))]) (fun _ => [rowHP vo 3 1 l.length (iV l)]) (fun k => l.length - k) 0 [0] ⟨Nat.zero_le _, by simp⟩ (by exact rfl) ⟨rfl, rfl, trivial⟩ ?_
  rintro k ⟨hk, hq⟩
  by_cases hlt : k < l.length
  · obtain ⟨e, he⟩ : ∃ e, l[k]? = some e := ⟨_, List.getElem?_eq_getElem hlt⟩
    have hE : (iV l)[k * 1]? = some (.int .i64 e) := by rw [Nat.mul_one, iV, List.getElem?_map, he]; rfl
    by_cases h2 : e = 2
    · repeat' first
        | refine k_then ?_ | refine c_seq ?_ | refine c_region ?_ | refine s_nil ?_ | refine s_move (by exact rfl) (by exact rfl) ?_ | refine s_assign (by exact rfl) (by exact rfl) ?_ | refine s_lss (by exact rfl) (by exact rfl) (by exact rfl) ?_ | refine s_neq (by exact rfl) (by exact rfl) (by exact rfl) ?_ | refine s_add (by exact rfl) (by exact rfl) (by exact rfl) (by omega) ?_ | refine s_len (by exact rfl) (by exact rfl) (by assumption) ?_ | refine s_idx (by exact rfl) (by exact rfl) (by exact rfl) (by assumption) (by first | assumption | omega) ?_ | refine s_ld_row (by exact rfl) (by exact rfl) (by exact .head _) (by assumption) ?_ | refine c_block ?_ | refine c_skip ?_ | refine k_blk ?_ | (refine c_cond_p (by exact rfl) (fun h => ?_) (fun h => ?_) <;> try (exfalso; omega))
      refine c_round (k + 1) [0] (by exact rfl) ⟨rfl, rfl, trivial⟩ ⟨by omega, fun x hx => ?_⟩ (by omega)
      rw [List.take_add_one, he] at hx
      rcases List.mem_append.1 hx with hx | hx
      · exact hq x hx
      · obtain rfl : x = e := by simpa using hx
        exact h2
    · repeat' first
        | refine k_then ?_ | refine c_seq ?_ | refine c_region ?_ | refine s_nil ?_ | refine s_move (by exact rfl) (by exact rfl) ?_ | refine s_assign (by exact rfl) (by exact rfl) ?_ | refine s_lss (by exact rfl) (by exact rfl) (by exact rfl) ?_ | refine s_neq (by exact rfl) (by exact rfl) (by exact rfl) ?_ | refine s_len (by exact rfl) (by exact rfl) (by assumption) ?_ | refine s_idx (by exact rfl) (by exact rfl) (by exact rfl) (by assumption) (by first | assumption | omega) ?_ | refine s_ld_row (by exact rfl) (by exact rfl) (by exact .head _) (by assumption) ?_ | refine c_block ?_ | refine c_skip ?_ | refine c_ret ?_ | refine k_then_ret ?_ | refine k_blk_ret ?_ | (refine c_cond_p (by exact rfl) (fun h => ?_) (fun h => ?_) <;> try (exfalso; omega))
      refine ret1 [] rfl rfl rfl ⟨?_, rfl⟩
      rw [if_pos (List.any_eq_true.2 ⟨e, List.mem_of_getElem? he, decide_eq_true h2⟩)]
  · repeat' first
      | refine k_then ?_ | refine c_seq ?_ | refine c_region ?_ | refine s_nil ?_ | refine s_move (by exact rfl) (by exact rfl) ?_ | refine s_assign (by exact rfl) (by exact rfl) ?_ | refine s_lss (by exact rfl) (by exact rfl) (by exact rfl) ?_ | refine s_len (by exact rfl) (by exact rfl) (by assumption) ?_ | refine c_exit ?_ | refine c_ret ?_ | refine k_then_exit ?_ | refine k_blk_eq ?_ | (refine c_cond_p (by exact rfl) (fun h => ?_) (fun h => ?_) <;> try (exfalso; omega))
    rw [List.take_of_length_le (by omega)] at hq
    refine ret1 [] rfl rfl rfl ⟨?_, rfl⟩
    rw [if_neg]
    rw [List.any_eq_true]
    rintro ⟨x, hx, hne⟩
    exact of_decide_eq_true hne (hq x hx)
theorem refPlane_no (n : Int) (v : Value) (es : List E) (vr : Value) (hr0 : List Value) (ls : List (List Int)) (w : World) (hs : Shp v es.length) (hr : RO w No v (esV es)) (hm : es.length < 4611686018427387904) (hR : ROsI w No vr hr0 ls) (hk : rotK n es ls ≠ 0) :
    Calls Tryz.prog 13 #[.agg #[.int .i64 n, v], vr] w (Post w No (Just (.int .i64 (rotK n es ls)))) := by
  have hsr := hR.shp
  have hrr := hR.ro
  refine enter0 (vs := [_, _]) Tryz.func13 rfl Tryz.ntmps13 rfl ?_
  repeat' first
    | refine k_then ?_ | refine c_seq ?_ | refine c_region ?_ | refine s_nil ?_ | refine s_move (by exact rfl) (by exact rfl) ?_ | refine s_assign (by exact rfl) (by exact rfl) ?_ | refine s_ldk_box (by exact rfl) (by exact rfl) (by exact .head _) (by exact rfl) (by exact rfl) ?_ | refine o_box (by exact rfl) (by exact rfl) (fun b => ?_)
  refine s_call (by exact rfl) (by exact rfl) (fun w h => refRotRight_ok n v es vr hr0 ls w hs (ro_old h hr) hm (rosI_old h hR)) ?_
  repeat' first
    | refine k_then ?_ | refine c_seq ?_ | refine c_region ?_ | refine s_nil ?_ | refine s_move (by exact rfl) (by exact rfl) ?_ | refine s_assign (by exact rfl) (by exact rfl) ?_ | refine s_neq (by exact rfl) (by exact rfl) (by exact rfl) ?_ | refine c_ret ?_ | refine k_then_ret ?_ | (refine c_cond_p (by exact rfl) (fun h => ?_) (fun h => ?_) <;> try (exfalso; omega))
  refine ret1 [] rfl rfl rfl ⟨rfl, rfl⟩
end Go.Proofs.YtpajjnkmaebhcabGreat
end
section
set_option linter.unusedVariables false
namespace Fil
theorem kept_ex {n : Int} {es : List E} (hR : RightG n es) (kept : List Bool) : ∃ l, MaxIn (nearS (tn es)) n.toNat (fun u => kept.getD u false) l := by
  have hol := oldK_length kept n.toNat
  have hhi := hR.hi
  have hG := renL_right hR (oldK_asc kept n.toNat) (by omega)
  obtain ⟨l', hl'⟩ := max_ex hG
  rw [Int.toNat_natCast] at hl'
  exact ⟨_, (renL_max hR (oldK_asc kept n.toNat) (by omega) (fun u hu => (mem_oldK.1 hu).1) hl').congr (k' := fun u => kept.getD u false) fun u hu => by
    rw [Bool.eq_iff_iff, decide_eq_true_eq, mem_oldK]
    exact ⟨fun h => h.2, fun h => ⟨hu, h⟩⟩⟩
theorem set_len {nb : Nat → List Nat} {N k m : Nat} {o : Nat → Nat} {l : List Nat} (h : SetP nb N k o m l) : l.length ≤ N := nodup_length h.ind.nd h.lt
theorem set_ratio {nb : Nat → List Nat} {N : Nat} {k : Int} {o : Nat → Nat} {l Y : List Nat} (h : SetP nb N k.toNat o (k.toNat + 1) l) (hk : 0 ≤ k) (hY : Ind nb Y fun _ => false) (hYN : ∀ u ∈ Y, u < N) : k * (Y.length : Int) ≤ (k + 1) * (l.length : Int) := by
  have h1 := baker_ratio (k := k.toNat) (M := l.length) (o := o) hY hYN fun s hs => h.top s (by omega)
  have h2 : ((k.toNat * Y.length : Nat) : Int) ≤ (((k.toNat + 1) * l.length : Nat) : Int) := by exact_mod_cast h1
  push_cast at h2
  rw [Int.toNat_of_nonneg hk] at h2
  exact h2
end Fil
namespace Go.Proofs.YtpajjnkmaebhcabGreat
open Go Go.RowKit Go.Sl Fil
set_option maxRecDepth 100000
set_option maxHeartbeats 8000000
set_option linter.unusedVariables false
set_option linter.unusedSimpArgs false
attribute [local irreducible] Code.wp wpList bodyPost wpQuiet Exit.then Exit.inBlock Post wpAnyH wpOp
theorem BakerSet_ok (n : Int) (v : Value) (es : List E) (vr : Value) (hr0 : List Value) (ls : List (List Int)) (k : Int) (w : World) (hs : Shp v es.length) (hr : RO w No v (esV es)) (hR : ROsI w No vr hr0 ls) (hlen : ∀ l ∈ ls, l.length ≤ 17592186044416) :
    Calls Tryz.prog 6 #[.agg #[.int .i64 n, v], vr, .int .i64 k] w (Post w No (Just (.bool true))) := by
  have hnil : Shp (.slice none 0 0) 0 := ⟨by simp [maxLen], .inl ⟨rfl, rfl⟩⟩
  refine enter0 (vs := [_, _, _]) Tryz.func6 rfl Tryz.ntmps6 rfl ?_
  repeat' first
    | refine k_then ?_ | refine c_seq ?_ | refine c_region ?_ | refine s_nil ?_ | refine s_move (by exact rfl) (by exact rfl) ?_ | refine s_assign (by exact rfl) (by exact rfl) ?_ | refine s_ldk_box (by exact rfl) (by exact rfl) (by exact .head _) (by exact rfl) (by exact rfl) ?_ | refine o_box (by exact rfl) (by exact rfl) (fun b => ?_) | fail
  refine s_call (vs := [.agg #[.int .i64 n, v], vr, .int .i64 13]) (by exact rfl) (by exact rfl) (fun w h => Light7_ok n v es.length vr hr0 ls 13 w hs (rosI_old h hR) hlen (by omega)) ?_
  cases hl : light7 n es.length ls 13
  · repeat' first
      | refine k_then ?_ | refine c_seq ?_ | refine c_region ?_ | refine s_nil ?_ | refine s_not (by exact rfl) (by exact rfl) ?_ | refine c_cond_t (by exact rfl) ?_ | fail
    refine s_call (vs := []) (by exact rfl) (by exact rfl) (fun w h => alive20_ok w) ?_
    repeat' first
      | refine k_then ?_ | refine s_nil ?_ | refine s_assign (by exact rfl) (by exact rfl) ?_ | refine c_ret ?_ | refine k_then_ret ?_ | fail
    refine ret1 [] rfl rfl (by exact rfl) ⟨rfl, rfl⟩
  obtain ⟨l1, l2, l3, l4⟩ := light7_t hl
  have hle : ∀ l ∈ ls, l.length ≤ 1048576 := fun l hl => by have := l4 l hl; omega
  by_cases hk : rotK n es ls = 0
  case neg =>
    repeat' first
      | refine k_then ?_ | refine c_seq ?_ | refine c_region ?_ | refine s_nil ?_ | refine s_move (by exact rfl) (by exact rfl) ?_ | refine s_not (by exact rfl) (by exact rfl) ?_ | refine s_ldk_box (by exact rfl) (by exact rfl) (by exact .head _) (by exact rfl) (by exact rfl) ?_ | refine c_skip ?_ | refine c_cond_f (by exact rfl) ?_ | fail
    refine s_call (vs := [.agg #[.int .i64 n, v], vr, .int .i64 k]) (by exact rfl) (by exact rfl) (fun w h => Set_no n v vr k (rotK n es ls) w (planeIs_no hs (ro_old h hr) (by omega) (rosI_old h hR) hle hk) (.inl hk)) ?_
    rw [if_neg hk]
    repeat' first
      | refine k_then ?_ | refine c_seq ?_ | refine c_region ?_ | refine s_nil ?_ | refine s_move (by exact rfl) (by exact rfl) ?_ | refine s_assign (by exact rfl) (by exact rfl) ?_ | refine s_extract (by exact rfl) (by exact rfl) (by exact rfl) ?_ | refine s_ldk_box (by exact rfl) (by exact rfl) (by exact .head _) (by exact rfl) (by exact rfl) ?_ | fail
    refine s_call (vs := [.agg #[.int .i64 n, v], vr]) (by exact rfl) (by exact rfl) (fun w h => refPlane_no n v es vr hr0 ls w hs (ro_old h hr) (by omega) (rosI_old h hR) hk) ?_
    repeat' first
      | refine k_then ?_ | refine c_seq ?_ | refine c_region ?_ | refine s_nil ?_ | refine s_move (by exact rfl) (by exact rfl) ?_ | refine s_assign (by exact rfl) (by exact rfl) ?_ | refine s_eql (by exact rfl) (by exact rfl) (by exact rfl) ?_ | refine s_neq (by exact rfl) (by exact rfl) (by exact rfl) ?_ | refine s_pick_t (by exact rfl) (by exact rfl) (by exact rfl) ?_ | refine s_pick_f (by exact rfl) (by exact rfl) (by exact rfl) ?_ | refine c_skip ?_ | (refine c_cond_p (by exact rfl) (fun h => ?_) (fun h => ?_) <;> try (exfalso; omega)) | refine c_cond_f (by exact rfl) ?_ | (refine g_case (by exact rfl) (by exact rfl) (fun h => ?_) (fun h => ?_) <;> try (exfalso; omega)) | refine g_skip (by exact rfl) (by exact rfl) (by exact rfl) (by exact rfl) ?_ | refine w_move (by exact rfl) (by exact rfl) (by exact rfl) (by exact rfl) ?_ | refine w_eql (by exact rfl) (by exact rfl) (by exact rfl) (by exact rfl) (by exact rfl) ?_ | refine w_len (by exact rfl) (by exact rfl) (by exact rfl) (by exact rfl) (by assumption) ?_ | refine g_on (by exact rfl) (by exact rfl) ?_ | fail
    refine s_call (vs := []) (by exact rfl) (by exact rfl) (fun w h => alive20_ok w) ?_
    repeat' first
      | refine k_then ?_ | refine s_nil ?_ | refine s_assign (by exact rfl) (by exact rfl) ?_ | refine s_pick_t (by exact rfl) (by exact rfl) (by exact rfl) ?_ | refine c_ret ?_ | refine k_then_ret ?_ | fail
    refine ret1 [] rfl rfl (by exact rfl) ⟨rfl, rfl⟩
  obtain ⟨hG, R, rfl, hRot⟩ := rot_sys hk
  have hRs := hR.nat
  have hlo := hG.lo
  obtain ⟨o, lab, hL⟩ := lev_ex w hG
  by_cases hp : planeR n.toNat (tn es) lab R = 0
  case neg =>
    repeat' first
      | refine k_then ?_ | refine c_seq ?_ | refine c_region ?_ | refine s_nil ?_ | refine s_move (by exact rfl) (by exact rfl) ?_ | refine s_not (by exact rfl) (by exact rfl) ?_ | refine s_ldk_box (by exact rfl) (by exact rfl) (by exact .head _) (by exact rfl) (by exact rfl) ?_ | refine c_skip ?_ | refine c_cond_f (by exact rfl) ?_ | fail
    refine s_call (vs := [.agg #[.int .i64 n, v], vr, .int .i64 k]) (by exact rfl) (by exact rfl) (fun w h => Set_no n v vr k (planeR n.toNat (tn es) lab R) w (planeIs_ok hs (ro_old h hr) hG (ros_old h hRs) hRot hL) (.inl hp)) ?_
    rw [if_neg hp]
    repeat' first
      | refine k_then ?_ | refine c_seq ?_ | refine c_region ?_ | refine s_nil ?_ | refine s_move (by exact rfl) (by exact rfl) ?_ | refine s_assign (by exact rfl) (by exact rfl) ?_ | refine s_extract (by exact rfl) (by exact rfl) (by exact rfl) ?_ | refine s_ldk_box (by exact rfl) (by exact rfl) (by exact .head _) (by exact rfl) (by exact rfl) ?_ | fail
    refine s_call (vs := [.agg #[.int .i64 n, v], vr]) (by exact rfl) (by exact rfl) (fun w h => refPlane_ok n v es vr hr0 R o lab w hs (ro_old h hr) hG (ros_old h hRs) hRot hL) ?_
    repeat' first
      | refine k_then ?_ | refine c_seq ?_ | refine c_region ?_ | refine s_nil ?_ | refine s_move (by exact rfl) (by exact rfl) ?_ | refine s_assign (by exact rfl) (by exact rfl) ?_ | refine s_eql (by exact rfl) (by exact rfl) (by exact rfl) ?_ | refine s_neq (by exact rfl) (by exact rfl) (by exact rfl) ?_ | refine s_pick_t (by exact rfl) (by exact rfl) (by exact rfl) ?_ | refine s_pick_f (by exact rfl) (by exact rfl) (by exact rfl) ?_ | refine c_skip ?_ | (refine c_cond_p (by exact rfl) (fun h => ?_) (fun h => ?_) <;> try (exfalso; omega)) | refine c_cond_f (by exact rfl) ?_ | (refine g_case (by exact rfl) (by exact rfl) (fun h => ?_) (fun h => ?_) <;> try (exfalso; omega)) | refine g_skip (by exact rfl) (by exact rfl) (by exact rfl) (by exact rfl) ?_ | refine w_move (by exact rfl) (by exact rfl) (by exact rfl) (by exact rfl) ?_ | refine w_eql (by exact rfl) (by exact rfl) (by exact rfl) (by exact rfl) (by exact rfl) ?_ | refine w_len (by exact rfl) (by exact rfl) (by exact rfl) (by exact rfl) (by assumption) ?_ | refine g_on (by exact rfl) (by exact rfl) ?_ | fail
    refine s_call (vs := []) (by exact rfl) (by exact rfl) (fun w h => alive20_ok w) ?_
    repeat' first
      | refine k_then ?_ | refine s_nil ?_ | refine s_assign (by exact rfl) (by exact rfl) ?_ | refine s_pick_t (by exact rfl) (by exact rfl) (by exact rfl) ?_ | refine c_ret ?_ | refine k_then_ret ?_ | fail
    refine ret1 [] rfl rfl (by exact rfl) ⟨rfl, rfl⟩
  by_cases hk2 : 1 ≤ k ∧ k ≤ 8
  case neg =>
    repeat' first
      | refine k_then ?_ | refine c_seq ?_ | refine c_region ?_ | refine s_nil ?_ | refine s_move (by exact rfl) (by exact rfl) ?_ | refine s_not (by exact rfl) (by exact rfl) ?_ | refine s_ldk_box (by exact rfl) (by exact rfl) (by exact .head _) (by exact rfl) (by exact rfl) ?_ | refine c_skip ?_ | refine c_cond_f (by exact rfl) ?_ | fail
    refine s_call (vs := [.agg #[.int .i64 n, v], vr, .int .i64 k]) (by exact rfl) (by exact rfl) (fun w h => Set_no n v vr k 0 w (hp ▸ planeIs_ok hs (ro_old h hr) hG (ros_old h hRs) hRot hL) (.inr (by omega))) ?_
    rw [if_pos rfl]
    repeat' first
      | refine k_then ?_ | refine c_seq ?_ | refine c_region ?_ | refine s_nil ?_ | refine s_move (by exact rfl) (by exact rfl) ?_ | refine s_assign (by exact rfl) (by exact rfl) ?_ | refine s_extract (by exact rfl) (by exact rfl) (by exact rfl) ?_ | refine s_ldk_box (by exact rfl) (by exact rfl) (by exact .head _) (by exact rfl) (by exact rfl) ?_ | fail
    refine s_call (vs := [.agg #[.int .i64 n, v], vr]) (by exact rfl) (by exact rfl) (fun w h => refPlane_ok n v es vr hr0 R o lab w hs (ro_old h hr) hG (ros_old h hRs) hRot hL) ?_
    rw [hp]
    repeat' first
      | refine k_then ?_ | refine c_seq ?_ | refine c_region ?_ | refine s_nil ?_ | refine s_move (by exact rfl) (by exact rfl) ?_ | refine s_assign (by exact rfl) (by exact rfl) ?_ | refine s_eql (by exact rfl) (by exact rfl) (by exact rfl) ?_ | refine s_neq (by exact rfl) (by exact rfl) (by exact rfl) ?_ | refine s_pick_t (by exact rfl) (by exact rfl) (by exact rfl) ?_ | (refine c_cond_p (by exact rfl) (fun h => ?_) (fun h => ?_) <;> try (exfalso; omega)) | refine c_cond_t (by exact rfl) ?_ | (refine g_case (by exact rfl) (by exact rfl) (fun h => ?_) (fun h => ?_) <;> try (exfalso; omega)) | refine g_skip (by exact rfl) (by exact rfl) (by exact rfl) (by exact rfl) ?_ | refine w_move (by exact rfl) (by exact rfl) (by exact rfl) (by exact rfl) ?_ | refine w_lss (by exact rfl) (by exact rfl) (by exact rfl) (by exact rfl) (by exact rfl) ?_ | refine w_gtr (by exact rfl) (by exact rfl) (by exact rfl) (by exact rfl) (by exact rfl) ?_ | refine w_eql (by exact rfl) (by exact rfl) (by exact rfl) (by exact rfl) (by exact rfl) ?_ | refine w_len (by exact rfl) (by exact rfl) (by exact rfl) (by exact rfl) (by assumption) ?_ | refine w_pick_t (by exact rfl) (by exact rfl) (by exact rfl) (by exact rfl) (by exact rfl) ?_ | refine w_pick_f (by exact rfl) (by exact rfl) (by exact rfl) (by exact rfl) (by exact rfl) ?_ | refine g_on (by exact rfl) (by exact rfl) ?_ | fail
    all_goals
      refine s_call (vs := []) (by exact rfl) (by exact rfl) (fun w h => alive20_ok w) ?_
    all_goals
      repeat' first
        | refine k_then ?_ | refine s_nil ?_ | refine s_assign (by exact rfl) (by exact rfl) ?_ | refine s_pick_t (by exact rfl) (by exact rfl) (by exact rfl) ?_ | refine c_ret ?_ | refine k_then_ret ?_ | fail
    all_goals
      refine ret1 [] rfl rfl (by exact rfl) ⟨rfl, rfl⟩
  repeat' first
    | refine k_then ?_ | refine c_seq ?_ | refine c_region ?_ | refine s_nil ?_ | refine s_move (by exact rfl) (by exact rfl) ?_ | refine s_not (by exact rfl) (by exact rfl) ?_ | refine s_ldk_box (by exact rfl) (by exact rfl) (by exact .head _) (by exact rfl) (by exact rfl) ?_ | refine c_skip ?_ | refine c_cond_f (by exact rfl) ?_ | fail
  revert b; intro bg
  refine o_call (vs := [.agg #[.int .i64 n, v], vr, .int .i64 k]) (by exact rfl) (by exact rfl) (fun w h => Set_ok n v vr es k o lab w hs (ro_old h hr) hG hL (hp ▸ planeIs_ok hs (ro_old h hr) hG (ros_old h hRs) hRot hL) hk2 (by omega)) ?_
  rintro _ _ ⟨vl, l, rfl, rfl, hS⟩
  have hll := set_len hS
  have hik := setP_ok hG hS
  obtain ⟨mx, hmx⟩ := max_ex hG
  have hmo := hmx.most hG
  have hml := max_len hmx
  have hrat := set_ratio hS (by omega) hmx.ind fun u hu => (hmx.mem u hu).1
  have h9 := mul_small (k := k + 1) (m := l.length) (by omega) (by omega)
  have h8 := mul_small (k := k) (m := mx.length) (by omega) (by omega)
  refine know_row (v := vl) (.head _) fun hvl _ => ?_
  repeat' first
    | refine k_then ?_ | refine c_seq ?_ | refine c_region ?_ | refine s_nil ?_ | refine s_move (by exact rfl) (by exact rfl) ?_ | refine s_assign (by exact rfl) (by exact rfl) ?_ | refine s_extract (by exact rfl) (by exact rfl) (by exact rfl) ?_ | refine s_ldk_box (by exact rfl) (by exact rfl) (by exact .tail _ (.head _)) (by exact rfl) (by exact rfl) ?_ | fail
  refine s_call (vs := [.agg #[.int .i64 n, v], vr]) (by exact rfl) (by exact rfl) (fun w h => refPlane_ok n v es vr hr0 R o lab w hs (ro_old h hr) hG (ros_old h hRs) hRot hL) ?_
  rw [hp]
  repeat' first
    | refine k_then ?_ | refine c_seq ?_ | refine c_region ?_ | refine s_nil ?_ | refine s_move (by exact rfl) (by exact rfl) ?_ | refine s_assign (by exact rfl) (by exact rfl) ?_ | refine s_eql (by exact rfl) (by exact rfl) (by exact rfl) ?_ | refine s_neq (by exact rfl) (by exact rfl) (by exact rfl) ?_ | refine s_pick_t (by exact rfl) (by exact rfl) (by exact rfl) ?_ | refine c_skip ?_ | (refine c_cond_p (by exact rfl) (fun h => ?_) (fun h => ?_) <;> try (exfalso; omega)) | (refine g_case (by exact rfl) (by exact rfl) (fun h => ?_) (fun h => ?_) <;> try (exfalso; omega)) | refine w_move (by exact rfl) (by exact rfl) (by exact rfl) (by exact rfl) ?_ | refine w_lss (by exact rfl) (by exact rfl) (by exact rfl) (by exact rfl) (by exact rfl) ?_ | refine w_gtr (by exact rfl) (by exact rfl) (by exact rfl) (by exact rfl) (by exact rfl) ?_ | refine w_pick_f (by exact rfl) (by exact rfl) (by exact rfl) (by exact rfl) (by exact rfl) ?_ | refine w_ldk_box (by exact rfl) (by exact rfl) (by exact rfl) (by exact rfl) (by exact .tail _ (.head _)) (by exact rfl) (by exact rfl) ?_ | refine g_on (by exact rfl) (by exact rfl) ?_ | fail
  refine s_call (vs := [.agg #[.int .i64 n, v], vl]) (by exact rfl) (by exact rfl) (fun w h => refCheck_ok n v vl es (l.map fun z : Nat => (z : Int)) w hs (ro_old h hr) (by omega) (by rw [List.length_map]; exact hvl) (by rw [← nV_iV]; exact ro_own h (.head _))) ?_
  rw [hik]
  repeat' first
    | refine s_move (by exact rfl) (by exact rfl) ?_ | refine s_pick_f (by exact rfl) (by exact rfl) (by exact rfl) ?_ | (refine g_case (by exact rfl) (by exact rfl) (fun h => ?_) (fun h => ?_) <;> try (exfalso; omega)) | refine w_move (by exact rfl) (by exact rfl) (by exact rfl) (by exact rfl) ?_ | refine w_neq (by exact rfl) (by exact rfl) (by exact rfl) (by exact rfl) (by exact rfl) ?_ | refine w_add (by exact rfl) (by exact rfl) (by exact rfl) (by exact rfl) (by exact rfl) (by omega) ?_ | refine w_mul (by exact rfl) (by exact rfl) (by exact rfl) (by exact rfl) (by exact rfl) (by omega) ?_ | refine w_len (by exact rfl) (by exact rfl) (by exact rfl) (by exact rfl) (by assumption) ?_ | refine w_ldk_box (by exact rfl) (by exact rfl) (by exact rfl) (by exact rfl) (by exact .tail _ (.head _)) (by exact rfl) (by exact rfl) ?_ | refine g_on (by exact rfl) (by exact rfl) ?_ | fail
  refine s_call (vs := [.agg #[.int .i64 n, v]]) (by exact rfl) (by exact rfl) (fun w h => Most_ok n v es w hs (ro_old h hr) hG) ?_
  rw [hmo]
  repeat' first
    | refine k_then ?_ | refine c_seq ?_ | refine c_region ?_ | refine s_nil ?_ | refine s_assign (by exact rfl) (by exact rfl) ?_ | refine s_pick_f (by exact rfl) (by exact rfl) (by exact rfl) ?_ | refine c_block ?_ | refine c_skip ?_ | (refine c_cond_p (by exact rfl) (fun h => ?_) (fun h => ?_) <;> try (exfalso; omega)) | refine w_lss (by exact rfl) (by exact rfl) (by exact rfl) (by exact rfl) (by exact rfl) ?_ | refine w_mul (by exact rfl) (by exact rfl) (by exact rfl) (by exact rfl) (by exact rfl) (by omega) ?_ | fail
  refine c_loop (fun s : Nat => (s : Int) ≤ k + 1) (fun s => [(2, .int .i64 k), (3, .pointer (some ⟨bg, 0, none⟩)), (7, vl), (10, .int .i64 (s : Int))]) (fun s => [rowHP vl 3 1 l.length (nV l), boxHP bg 24 [.int .i64 n, v]]) (fun s => k.toNat + 1 - s) 0 [0, 0] (by omega) (by exact rfl) ⟨rfl, rfl, rfl, rfl, trivial⟩ ?_
  rintro s hs1
  by_cases hsk : (s : Int) ≤ k
  · obtain ⟨ls, hls⟩ := kept_ex hG (keptL n.toNat k.toNat (s : Int).toNat o)
    have htop := hS.top s (by omega) ls hls.ind fun u hu => by have := hls.mem u hu; rwa [Int.toNat_natCast] at this
    have hsl := max_len hls
    repeat' first
      | refine k_then ?_ | refine c_seq ?_ | refine c_region ?_ | refine s_nil ?_ | refine s_move (by exact rfl) (by exact rfl) ?_ | refine s_leq (by exact rfl) (by exact rfl) (by exact rfl) ?_ | refine s_len (by exact rfl) (by exact rfl) (by assumption) ?_ | refine s_ldk_box (by exact rfl) (by exact rfl) (by exact .tail _ (.head _)) (by exact rfl) (by exact rfl) ?_ | refine c_block ?_ | refine c_skip ?_ | (refine c_cond_p (by exact rfl) (fun h => ?_) (fun h => ?_) <;> try (exfalso; omega)) | fail
    refine s_call (vs := [.agg #[.int .i64 n, v], .int .i64 k, .int .i64 (s : Int)]) (by exact rfl) (by exact rfl) (fun w h => refMost20_ok n v es k (s : Int) o lab ls w hs (ro_old h hr) hG hL ⟨hk2.1, hk2.2, by omega, hsk⟩ hls) ?_
    repeat' first
      | refine k_then ?_ | refine c_region ?_ | refine s_nil ?_ | refine s_move (by exact rfl) (by exact rfl) ?_ | refine s_assign (by exact rfl) (by exact rfl) ?_ | refine s_lss (by exact rfl) (by exact rfl) (by exact rfl) ?_ | refine s_add (by exact rfl) (by exact rfl) (by exact rfl) (by omega) ?_ | refine c_skip ?_ | refine k_blk ?_ | (refine c_cond_p (by exact rfl) (fun h => ?_) (fun h => ?_) <;> try (exfalso; omega)) | fail
    refine c_round (s + 1) [0, 0] (by exact rfl) ⟨rfl, rfl, rfl, rfl, trivial⟩ (by omega) (by omega)
  · repeat' first
      | refine k_then ?_ | refine c_seq ?_ | refine c_region ?_ | refine s_nil ?_ | refine s_move (by exact rfl) (by exact rfl) ?_ | refine s_leq (by exact rfl) (by exact rfl) (by exact rfl) ?_ | refine c_exit ?_ | refine k_then_exit ?_ | refine k_blk_eq ?_ | (refine c_cond_p (by exact rfl) (fun h => ?_) (fun h => ?_) <;> try (exfalso; omega)) | fail
    refine s_call (vs := []) (by exact rfl) (by exact rfl) (fun w h => alive20_ok w) ?_
    repeat' first
      | refine k_then ?_ | refine s_nil ?_ | refine s_assign (by exact rfl) (by exact rfl) ?_ | refine c_ret ?_ | fail
    refine ret1 [] rfl rfl (by exact rfl) ⟨rfl, rfl⟩
end Go.Proofs.YtpajjnkmaebhcabGreat
end
section
namespace Go.Proofs.YtpajjnkmaebhcabGreat
open Go.ChangeShapes Go.WideShapes Go.ChangeAt Go.RowKit Go.Joins Go.Deep Go.Sl Fil
set_option maxRecDepth 100000
set_option linter.unusedVariables false
set_option linter.unusedSimpArgs false
theorem row_own : ownKnob Tryz.prog.godebug = none := by kernel_rfl
theorem row_laid : laidOutB Tryz.prog = true := by kernel_rfl
theorem cells_graph : Tryz.prog.cellsOf 24 = 2 := by kernel_rfl
theorem cells_edge : Tryz.prog.cellsOf 37 = 3 := by kernel_rfl
theorem cells_int : Tryz.prog.cellsOf 3 = 1 := by kernel_rfl
section
variable {H : Type} {enc : TypeId × Value → H}
theorem slice_spot {P : Program} {w : World} {r : Reach} {base : Nat} {t e : TypeId} {a : Addr} {len cap : Nat} (hu : P.underlying t = some (.slice e)) (h : Cell.okWide P w r base t (.slice (some a) len cap)) : a.spot = none := by
  simp only [Cell.okWide, hu, Cell.ok, World.has] at h
  exact h.2.2.2.1
theorem es_list {n : Nat} {f : Nat → Nat → Value} (h : ∀ i, i < n → ∃ a b c, f i 0 = .int .i64 a ∧ f i 1 = .int .i64 b ∧ f i 2 = .int .i64 c) : ∃ es : List E, es.length = n ∧ ∀ (i : Nat) j u, i < n → j < 3 → (esV es)[i * 3 + j]? = some u → u = f i j := by
  induction n with
  | zero => exact ⟨[], rfl, fun i j u hi => by omega⟩
  | succ n ih =>
    obtain ⟨es, h1, h2⟩ := ih fun i hi => h i (by omega)
    obtain ⟨a, b, c, ha, hb, hc⟩ := h n (by omega)
    refine ⟨es ++ [(a, b, c)], by simp [h1], fun i j u hi hj hu => ?_⟩
    rw [esV_snoc] at hu
    have hl := esV_length es
    by_cases hin : i < n
    · rw [List.getElem?_append_left (by omega)] at hu
      exact h2 i j u hin hj hu
    · obtain rfl : i = n := by omega
      rw [List.getElem?_append_right (by omega), show i * 3 + j - (esV es).length = j from by omega] at hu
      match j, hj with
      | 0, _ => simp [eV] at hu; rw [← hu, ha]
      | 1, _ => simp [eV] at hu; rw [← hu, hb]
      | 2, _ => simp [eV] at hu; rw [← hu, hc]
theorem open_edges {W : World} {base fuel : Nat} {v : Value} {y : DataW H × List MemPlace} (hv : Cell.okWide Tryz.prog W .any base 22 v) (h : DataW.trod enc Tryz.prog W 0 (fun _ => true) true fuel 22 [v] = some y) :
    ∃ es : List E, Shp v es.length ∧ RO W No v (esV es) := by
  rcases open_slice Tryz.underlying22 h with ⟨hcs, _⟩ | ⟨a, len, cap, m, n, D, Pl, hcs, _, hl, hm, hmm, _, hx⟩
  · simp only [List.cons.injEq, and_true] at hcs
    subst hcs
    exact ⟨[], ⟨by simp [maxLen], .inl ⟨rfl, rfl⟩⟩, RO.of_rd fun j u hj => by simp [esV] at hj⟩
  · simp only [List.cons.injEq, and_true] at hcs
    subst hcs
    have hsp := slice_spot Tryz.underlying22 hv
    obtain ⟨g, off, sp⟩ := a
    dsimp only at hsp
    subst hsp
    simp only [if_true] at hmm
    subst hmm
    have key : ∀ i, i < len → ∃ a b c, W.cell? ⟨g, off + (i * 3 + 0), none⟩ = some (.int .i64 a) ∧ W.cell? ⟨g, off + (i * 3 + 1), none⟩ = some (.int .i64 b) ∧ W.cell? ⟨g, off + (i * 3 + 2), none⟩ = some (.int .i64 c) := by
      intro i hi
      obtain ⟨cs, h1, h2⟩ := hx i (by omega)
      rw [cells_edge] at h1
      obtain ⟨_, hlen, hc⟩ := World.cells?_some h1
      obtain ⟨y0, y1, y2, k, _, _, t0, t1, t2⟩ := trod_struct3 Tryz.underlying37 h2
      obtain ⟨a, e0, -, -⟩ := DataW.trod_int Tryz.underlying3 t0
      obtain ⟨b, e1, -, -⟩ := DataW.trod_int Tryz.underlying3 t1
      obtain ⟨c, e2, -, -⟩ := DataW.trod_int Tryz.underlying2 t2
      match cs, hlen, hc, e0, e1, e2 with
      | [x0, x1, x2], _, hc, e0, e1, e2 =>
        have c0 := hc 0 (by omega)
        have c1 := hc 1 (by omega)
        have c2 := hc 2 (by omega)
        have f0 : x0 = .int .i64 a := by
          have : [x0] = [.int .i64 a] := e0
          simpa using this
        have f1 : x1 = .int .i64 b := by
          have : [x1] = [.int .i64 b] := e1
          simpa using this
        have f2 : x2 = .int .i64 c := by
          have : [x2] = [.int .i64 c] := e2
          simpa using this
        subst f0 f1 f2
        refine ⟨a, b, c, ?_, ?_, ?_⟩
        · rw [Deep.add_add] at c0
          rw [show (⟨g, off + (i * 3 + 0), none⟩ : Addr) = (⟨g, off, none⟩ : Addr).add (i * 3 + 0) from by simp [Addr.add]]
          exact c0
        · rw [Deep.add_add] at c1
          rw [show (⟨g, off + (i * 3 + 1), none⟩ : Addr) = (⟨g, off, none⟩ : Addr).add (i * 3 + 1) from by simp [Addr.add]]
          exact c1
        · rw [Deep.add_add] at c2
          rw [show (⟨g, off + (i * 3 + 2), none⟩ : Addr) = (⟨g, off, none⟩ : Addr).add (i * 3 + 2) from by simp [Addr.add]]
          exact c2
    obtain ⟨es, he1, he2⟩ := es_list (n := len) (f := fun i j => (W.cell? ⟨g, off + (i * 3 + j), none⟩).getD undef) (fun i hi => by
      obtain ⟨a, b, c, h0, h1, h2⟩ := key i hi
      exact ⟨a, b, c, congrArg (fun x => Option.getD x undef) h0, congrArg (fun x => Option.getD x undef) h1, congrArg (fun x => Option.getD x undef) h2⟩)
    subst he1
    refine ⟨es, ⟨by omega, .inr (.inl ⟨g, off, m, rfl, hl, hm⟩)⟩, RO.of_rd fun j u hj => ⟨g, off, es.length, m, rfl, ?_⟩⟩
    have hlt := (List.getElem?_eq_some_iff.1 hj).1
    rw [esV_length] at hlt
    have hd : j / 3 * 3 + j % 3 = j := by omega
    have hu := he2 (j / 3) (j % 3) u (by omega) (by omega) (by rw [hd]; exact hj)
    rw [hd] at hu
    obtain ⟨a, b, c, h0, h1, h2⟩ := key (j / 3) (by omega)
    have hex : ∃ x, W.cell? ⟨g, off + j, none⟩ = some x := by
      have : j % 3 = 0 ∨ j % 3 = 1 ∨ j % 3 = 2 := by omega
      rcases this with h | h | h
      · exact ⟨_, by rw [← hd, h]; exact h0⟩
      · exact ⟨_, by rw [← hd, h]; exact h1⟩
      · exact ⟨_, by rw [← hd, h]; exact h2⟩
    obtain ⟨x, hx⟩ := hex
    rw [hx] at hu ⊢
    rw [hu]
    rfl
theorem open_graph {W : World} {base : Nat} {v : Value} {d : DataW H} {p : List MemPlace} (hv : Value.okWide Tryz.prog W .any base 24 v) (h : DataW.Trod enc Tryz.prog W 0 (fun _ => true) true 24 v d p) :
    ∃ (n : Int) (u : Value) (es : List E), v = .agg #[.int .i64 n, u] ∧ Shp u es.length ∧ RO W No u (esV es) := by
  obtain ⟨c0, c1, y0, y1, m, rfl, -, -, hy0, hy1⟩ := open_agg2 Tryz.underlying24 (by kernel_rfl) cells_graph hv h
  obtain ⟨a, e0, -, -⟩ := DataW.trod_int Tryz.underlying3 hy0
  simp only [List.cons.injEq, and_true] at e0
  subst e0
  have hc : Cell.okWide Tryz.prog W .any base 22 c1 := by
    simp only [Value.okWide, Tryz.underlying24] at hv
    obtain ⟨cs, hcs, _, ts, hts, _, hall⟩ := hv
    obtain rfl : cs = #[.int .i64 a, c1] := by simpa using hcs.symm
    have e : Tryz.prog.cellTypes Tryz.prog.depth 24 = some [3, 22] := by kernel_rfl
    rw [e] at hts
    obtain rfl : [3, 22] = ts := by simpa using hts
    obtain ⟨u, hu, hok⟩ := hall 1 c1 rfl
    obtain rfl : 22 = u := by simpa using hu
    exact hok
  obtain ⟨es, h1, h2⟩ := open_edges hc hy1
  exact ⟨a, c1, es, rfl, h1, h2⟩
end
end Go.Proofs.YtpajjnkmaebhcabGreat
end
section
namespace Go.Proofs.YtpajjnkmaebhcabGreat
open Go.ChangeShapes Go.WideShapes Go.ChangeAt Go.RowKit Go.Joins Go.Deep Go.Sl Fil
set_option maxRecDepth 100000
set_option linter.unusedVariables false
set_option linter.unusedSimpArgs false
section
variable {H : Type} {enc : TypeId × Value → H}
theorem pick_lists {n : Nat} {P : Nat → Value → List Int → Prop} (h : ∀ i, i < n → ∃ x l, P i x l) : ∃ (hs : List Value) (ls : List (List Int)), hs.length = n ∧ ls.length = n ∧ ∀ (i : Nat) x l, hs[i]? = some x → ls[i]? = some l → P i x l := by
  induction n with
  | zero => exact ⟨[], [], rfl, rfl, fun i x l h => by simp at h⟩
  | succ n ih =>
    obtain ⟨hs, ls, h1, h2, h3⟩ := ih fun i hi => h i (by omega)
    obtain ⟨x, l, hp⟩ := h n (by omega)
    refine ⟨hs ++ [x], ls ++ [l], by simp [h1], by simp [h2], fun i y m hy hm => ?_⟩
    by_cases hi : i < n
    · rw [List.getElem?_append_left (by omega)] at hy hm
      exact h3 i y m hy hm
    · have hb := (List.getElem?_eq_some_iff.1 hy).1
      simp only [List.length_append, List.length_cons, List.length_nil] at hb
      obtain rfl : i = n := by omega
      rw [List.getElem?_append_right (by omega), show i - hs.length = 0 by omega] at hy
      rw [List.getElem?_append_right (by omega), show i - ls.length = 0 by omega] at hm
      simp at hy hm
      subst hy hm
      exact hp
theorem weights_all {P : Program} {e : TypeId} : ∀ {l : List (DataW H)} {d : DataW H}, d ∈ l → ∀ n ∈ d.weights P e, n ∈ DataW.weightsAll P e l
  | x :: l, d, h, n, hn => by
    rw [DataW.weightsAll]
    rcases List.mem_cons.1 h with rfl | h
    · exact List.mem_append.2 (.inl hn)
    · exact List.mem_append.2 (.inr (weights_all h n hn))
theorem okc_rows {W : World} {base : Nat} {v x : Value} (hc : Cell.okWide Tryz.prog W .any base 25 v) (h : v.cells.toList = [x]) : v = x := by
  cases v with
  | agg cs => simp [Cell.okWide, Tryz.underlying25, Cell.ok] at hc
  | _ => simpa [Value.cells] using h
theorem open_rows {W : World} {base : Nat} {v : Value} {d : DataW H} {p : List MemPlace} (hv : Value.okWide Tryz.prog W .any base 25 v) (h : DataW.Trod enc Tryz.prog W 0 (fun _ => true) true 25 v d p) (hz : ∀ n ∈ d.weights Tryz.prog 25, n ≤ reachBytes) :
    ∃ (hs : List Value) (ls : List (List Int)), ROsI W No v hs ls ∧ ∀ l ∈ ls, l.length ≤ 17592186044416 := by
  obtain ⟨fuel, hf⟩ := h
  have hc : Cell.okWide Tryz.prog W .any base 25 v := by
    simp only [Value.okWide, Tryz.underlying25] at hv
    exact hv
  rcases open_slice1 Tryz.underlying25 (by kernel_rfl) hf with ⟨hcs, _⟩ | ⟨a, len, cap, m, n, V, D, Pl, hcs, _, hl, hm, hmm, hxd, hx⟩
  · have hv0 : v = .slice none 0 0 := okc_rows hc hcs
    subst hv0
    exact ⟨[], [], ⟨⟨by simp [maxLen], .inl ⟨rfl, rfl⟩⟩, rfl, RO.of_rd fun j u hj => by simp at hj, fun i x l hi => by simp at hi⟩, by simp⟩
  · have hv0 : v = .slice (some a) len cap := okc_rows hc hcs
    subst hv0
    have hsp := slice_spot Tryz.underlying25 hc
    obtain ⟨g, off, sp⟩ := a
    dsimp only at hsp
    subst hsp
    rw [if_pos rfl] at hmm
    subst hmm
    obtain ⟨hs, ls, h1, h2, h3⟩ := pick_lists (n := len) (P := fun i x l => W.cell? ⟨g, off + i, none⟩ = some x ∧ (Shp x l.length ∧ RO W No x (iV l)) ∧ l.length ≤ 17592186044416) fun i hi => by
      obtain ⟨c1, c2⟩ := hx i (by omega)
      rw [show (⟨g, off, none⟩ : Addr).add i = ⟨g, off + i, none⟩ from by simp [Addr.add]] at c1
      rcases open_ints Tryz.underlying28 Tryz.underlying3 cells_int c2 with ⟨e, _⟩ | ⟨a', len', cap', zs, e, _, hl', hm', hzl, hdd, hx', _⟩
      · obtain e : V i = .slice none 0 0 := by simpa using e
        rw [e] at c1
        exact ⟨_, [], c1, ⟨⟨by simp [maxLen], .inl ⟨rfl, rfl⟩⟩, RO.of_rd fun j u hj => by simp [iV] at hj⟩, by simp⟩
      · obtain e : V i = .slice (some a') len' cap' := by simpa using e
        rw [e] at c1
        rw [if_pos rfl] at hzl
        by_cases h0 : cap' = 0
        · obtain rfl : len' = 0 := by omega
          subst h0
          exact ⟨_, [], c1, ⟨⟨by simp [maxLen], .inr (.inr ⟨⟨_, rfl⟩, rfl⟩)⟩, RO.of_rd fun j u hj => by simp [iV] at hj⟩, by simp⟩
        · have hsp := World.cell?_spot (hx' 0 (by omega))
          obtain ⟨g', off', sp'⟩ := a'
          obtain rfl : sp' = none := by simpa [Addr.add] using hsp
          have htl : (zs.take len').length = len' := by rw [List.length_take]; omega
          have hzz : len' ≤ 17592186044416 := by
            have e1 : D i = .slice (lits .i64 (zs.take len')) (lits .i64 (zs.drop len')) := congrArg Prod.fst hdd
            have e2 : (8 : Nat) = Tryz.prog.bytesOf 3 := by kernel_rfl
            have h5 : (zs.length * 8) ∈ (D i).weights Tryz.prog 28 := by
              rw [e1, DataW.weights, Tryz.underlying28]
              refine List.mem_cons.2 (.inl ?_)
              rw [← e2]
              simp [lits]
              omega
            have h6 : (D i) ∈ (List.range len).map D := List.mem_map.2 ⟨i, List.mem_range.2 hi, rfl⟩
            have h7 := hz _ (by
              rw [show d = _ from congrArg Prod.fst hxd, DataW.weights, Tryz.underlying25]
              exact List.mem_cons.2 (.inr (List.mem_append.2 (.inl (weights_all h6 _ h5)))))
            simp only [reachBytes] at h7
            omega
          refine ⟨_, zs.take len', c1, ⟨⟨by rw [htl]; omega, .inr (.inl ⟨g', off', cap', by rw [htl], by rw [htl]; exact hl', hm'⟩)⟩, RO.of_rd fun j u hj => ⟨g', off', len', cap', rfl, ?_⟩⟩, by rw [htl]; exact hzz⟩
          have hlt := (List.getElem?_eq_some_iff.1 hj).1
          simp only [iV, List.length_map, htl] at hlt
          have h2 := hx' j (by omega)
          rw [show (⟨g', off', none⟩ : Addr).add j = ⟨g', off' + j, none⟩ from by simp [Addr.add]] at h2
          rw [h2, ← hj]
          simp only [iV, List.getElem?_map, List.getElem?_take, if_pos hlt]
          rw [List.getD_eq_getElem?_getD, List.getElem?_eq_getElem (by omega)]
          rfl
    refine ⟨hs, ls, ⟨⟨by rw [h2]; omega, .inr (.inl ⟨g, off, m, by rw [h2], by rw [h2]; exact hl, hm⟩)⟩, by omega, RO.of_rd fun j u hj => ⟨g, off, len, m, rfl, ?_⟩, fun i x l hi hli => (h3 i x l hi hli).2.1⟩, fun l hl => ?_⟩
    rotate_left
    · obtain ⟨i, hi⟩ := List.getElem?_of_mem hl
      have hb := (List.getElem?_eq_some_iff.1 hi).1
      exact (h3 i _ l (List.getElem?_eq_getElem (show i < hs.length by omega)) hi).2.2
    have hlt := (List.getElem?_eq_some_iff.1 hj).1
    obtain ⟨l, hl2⟩ : ∃ l, ls[j]? = some l := ⟨_, List.getElem?_eq_getElem (by omega)⟩
    exact (h3 j u l hj hl2).1
end
end Go.Proofs.YtpajjnkmaebhcabGreat
end
