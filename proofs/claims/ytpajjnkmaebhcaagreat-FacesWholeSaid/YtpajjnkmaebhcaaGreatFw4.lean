/- Of FacesWhole: part 4: what the walks rest on, contracts of functions and plain lemmas; no condition but those that each states. -/
import Derived.Test.YtpajjnkmaebhcaaGreatFw3
import Derived.Laws.StructEq
set_option linter.unusedVariables false
set_option linter.unusedSimpArgs false
section
set_option linter.unusedVariables false
namespace Go.Proofs
open Go Go.RowKit Go.Maps Go.Sl
abbrev evN (k : Nat) : Value := .int .i64 (k : Int)
instance : MapTy Tryz.prog 81 (Nat × Nat) Nat ekD evN okD 0 76 where
  e := ⟨3, Tryz.underlying81, fun w => Tryz.zeroValue3 w⟩
  keyed := Keyed.of_law dart_law
  key := dart_key
  inj := ekD_inj
end Go.Proofs
namespace Go.Proofs.YtpajjnkmaebhcaaGreat
open Go Go.RowKit Go.Sl Fil
theorem putL_dsV {l : List (Nat × Nat)} {k : Nat} {d : Nat × Nat} (hk : k < l.length) : putL (dsV l) (k * 2) [.int .i64 (d.1 : Int), .int .i64 (d.2 : Int)] = dsV (l.set k d) := by
  induction l generalizing k with
  | nil => simp at hk
  | cons a l ih =>
    cases k with
    | zero => rfl
    | succ k =>
      have e : dsV (a :: l) = .int .i64 (a.1 : Int) :: .int .i64 (a.2 : Int) :: dsV l := rfl
      have h := ih (k := k) (by simpa using hk)
      simp only [putL] at h ⊢
      rw [List.set_cons_succ, show dsV (a :: l.set k d) = .int .i64 (a.1 : Int) :: .int .i64 (a.2 : Int) :: dsV (l.set k d) from rfl, ← h, e, show (k + 1) * 2 = k * 2 + 1 + 1 by omega]
      rfl
theorem map_fst_pair (l : List (Nat × Nat)) (k : Nat) : (l.map fun d => (d, k)).map Prod.fst = l := by simp [Function.comp_def]
theorem dsV_zero (m : Nat) : dsV (List.replicate m (0, 0)) = List.replicate (m * 2) (.int .i64 0) := by
  induction m with
  | zero => rfl
  | succ m ih =>
    rw [List.replicate_succ, show dsV ((0, 0) :: List.replicate m (0, 0)) = .int .i64 ((0 : Nat) : Int) :: .int .i64 ((0 : Nat) : Int) :: dsV (List.replicate m (0, 0)) from rfl, ih, show (m + 1) * 2 = m * 2 + 1 + 1 by omega, List.replicate_succ, List.replicate_succ]
    rfl
theorem made2 (m : Nat) : (madeCells (Value.agg #[.int .i64 0, .int .i64 0]).cells (m * 2)).toList = dsV (List.replicate m (0, 0)) := by
  rw [dsV_zero]
  apply List.ext_getElem?
  intro i
  rw [List.getElem?_replicate]
  by_cases h : i < m * 2
  · rw [if_pos h]
    have h2 : i % 2 = 0 ∨ i % 2 = 1 := by omega
    rcases h2 with h2 | h2 <;> simp [madeCells, Value.cells, h, h2]
  · rw [if_neg h]
    simp [madeCells, Value.cells]
    omega
/-- what Plane answers, from here on -/
def PlaneIs (n : Int) (v vr : Value) (K : Int) (w : World) : Prop := ∀ w' S', Mod w No w' S' → Calls Tryz.prog 16 #[.agg #[.int .i64 n, v], vr] w' (Post w' No (Just (.int .i64 K)))
theorem PlaneIs.old {w0 w : World} {n : Int} {v vr : Value} {K : Int} {L : List HP} (h : PlaneIs n v vr K w0) (hs : St w0 No L w) : PlaneIs n v vr K w := hs.mod0.elim fun _ hm w' S' hm2 => h w' _ (mod_trans0 hm hm2)
theorem PlaneIs.here {w : World} {n : Int} {v vr : Value} {K : Int} (h : PlaneIs n v vr K w) : Calls Tryz.prog 16 #[.agg #[.int .i64 n, v], vr] w (Post w No (Just (.int .i64 K))) := h w _ (Mod.refl _ _)
set_option maxRecDepth 100000
set_option maxHeartbeats 8000000
set_option linter.unusedVariables false
set_option linter.unusedSimpArgs false
attribute [local irreducible] Code.wp wpList bodyPost wpQuiet Exit.then Exit.inBlock Post wpAnyH wpOp
theorem rounds_ok (n : Int) (v : Value) (es : List E) (vr : Value) (hr0 : List Value) (R : List (List Nat)) (w : World) (hs : Shp v es.length) (hr : RO w No v (esV es)) (hG : RightG n es) (hR : ROs w No vr hr0 R) (hRot : RotL n.toNat (tn es) R) (hP : PlaneIs n v vr 0 w) :
    Calls Tryz.prog 46 #[.agg #[.int .i64 n, v], vr] w (Post w No fun r L' => ∃ (vo : Value) (ho : List Value), r = .tuple #[vo, .int .i64 0] ∧ ho.length = (facesR n.toNat (tn es) R).length ∧ L' = [rowHP vo 77 1 (facesR n.toNat (tn es) R).length ho, starHP (kids rowD ho (facesR n.toNat (tn es) R))]) := by
  have hsr := hR.shp
  have hrr := hR.ro
  refine enter0 (vs := [_, _]) Tryz.func46 rfl Tryz.ntmps46 rfl ?_
  repeat' first
    | refine k_then ?_ | refine c_seq ?_ | refine c_region ?_ | refine s_nil ?_ | refine s_move (by exact rfl) (by exact rfl) ?_ | refine s_assign (by exact rfl) (by exact rfl) ?_ | refine s_ldk_box (by exact rfl) (by exact rfl) (by exact .head _) (by exact rfl) (by exact rfl) ?_ | refine o_box (by exact rfl) (by exact rfl) (fun b => ?_) | fail
  refine s_call (vs := [.agg #[.int .i64 n, v], vr]) (by exact rfl) (by exact rfl) (fun w h => (hP.old h).here) ?_
  repeat' first
    | refine k_then ?_ | refine c_seq ?_ | refine c_region ?_ | refine s_nil ?_ | refine s_move (by exact rfl) (by exact rfl) ?_ | refine s_assign (by exact rfl) (by exact rfl) ?_ | refine s_neq (by exact rfl) (by exact rfl) (by exact rfl) ?_ | refine s_ldk_box (by exact rfl) (by exact rfl) (by exact .head _) (by exact rfl) (by exact rfl) ?_ | refine c_skip ?_ | (refine c_cond_p (by exact rfl) (fun h => ?_) (fun h => ?_) <;> try (exfalso; omega)) | fail
  refine o_call (by exact rfl) (by exact rfl) (fun w h => rotFaces_ok n v es vr hr0 R w hs (ro_old h hr) hG (ros_old h hR) hRot) ?_
  rintro _ _ ⟨vo, ho, rfl, hol, rfl⟩
  repeat' first
    | refine k_then ?_ | refine s_nil ?_ | refine s_assign (by exact rfl) (by exact rfl) ?_ | refine s_extract (by exact rfl) (by exact rfl) (by exact rfl) ?_ | refine c_ret ?_ | fail
  refine retL [.tmp 4, .tmp 5] [vo, .int .i64 0] [0, 0] rfl ⟨res_tmp rfl, res_tmp rfl, trivial⟩ (by exact rfl) ⟨vo, ho, rfl, hol, rfl⟩
theorem Lengths_ok (n : Int) (v : Value) (es : List E) (vr : Value) (hr0 : List Value) (R : List (List Nat)) (w : World) (hs : Shp v es.length) (hr : RO w No v (esV es)) (hG : RightG n es) (hR : ROs w No vr hr0 R) (hRot : RotL n.toNat (tn es) R) (hP : PlaneIs n v vr 0 w) :
    Calls Tryz.prog 27 #[.agg #[.int .i64 n, v], vr] w (Post w No fun r L' => ∃ vo : Value, r = .tuple #[vo, .int .i64 0] ∧ L' = [rowHP vo 3 1 (facesR n.toNat (tn es) R).length (nV ((facesR n.toNat (tn es) R).map List.length))]) := by
  have hsr := hR.shp
  have hrr := hR.ro
  have hmany := hG.many
  refine enter0 (vs := [_, _]) Tryz.func27 rfl Tryz.ntmps27 rfl ?_
  repeat' first
    | refine k_then ?_ | refine c_seq ?_ | refine c_region ?_ | refine s_nil ?_ | refine s_move (by exact rfl) (by exact rfl) ?_ | refine s_assign (by exact rfl) (by exact rfl) ?_ | refine s_ldk_box (by exact rfl) (by exact rfl) (by exact .head _) (by exact rfl) (by exact rfl) ?_ | refine o_box (by exact rfl) (by exact rfl) (fun b => ?_) | fail
  refine o_call (by exact rfl) (by exact rfl) (fun w h => rounds_ok n v es vr hr0 R w hs (ro_old h hr) hG (ros_old h hR) hRot (hP.old h)) ?_
  rintro _ _ ⟨vf, hf, rfl, hfl, rfl⟩
  refine know_row (v := vf) (by exact .head _) fun hvf _ => ?_
  have hdec := facesR_dec hG hRot
  have hFl : (facesR n.toNat (tn es) R).length ≤ 2 * es.length := by
    have h1 := flat_le (C := facesR n.toNat (tn es) R) fun f hf => (hdec.cy f hf).1
    have h2 := hdec.perm.length_eq
    rw [dartsAll_length hG] at h2
    omega
  generalize facesR n.toNat (tn es) R = Fs at *
  repeat' first
    | refine k_then ?_ | refine c_seq ?_ | refine c_region ?_ | refine s_nil ?_ | refine s_move (by exact rfl) (by exact rfl) ?_ | refine s_assign (by exact rfl) (by exact rfl) ?_ | refine s_neq (by exact rfl) (by exact rfl) (by exact rfl) ?_ | refine s_len (by exact rfl) (by exact rfl) (by assumption) ?_ | refine s_extract (by exact rfl) (by exact rfl) (by exact rfl) ?_ | refine c_skip ?_ | (refine c_cond_p (by exact rfl) (fun h => ?_) (fun h => ?_) <;> try (exfalso; omega)) | fail
  refine o_make (by exact rfl) (by exact rfl) (by exact rfl) (by omega) (by omega) fun vo hvo => ?_
  repeat' first
    | refine k_then ?_ | refine c_seq ?_ | refine c_region ?_ | refine s_nil ?_ | refine s_move (by exact rfl) (by exact rfl) ?_ | refine s_assign (by exact rfl) (by exact rfl) ?_ | refine s_len (by exact rfl) (by exact rfl) (by assumption) ?_ | refine c_block ?_ | fail
  refine c_loop (fun k : Nat => k ≤ Fs.length) (fun k => [(8, vo), (23, vf), (24, .int .i64 (Fs.length : Int)), (25, .int .i64 (k : Int))]) (fun k => [rowHP vo 3 1 Fs.length (nV (lensK Fs k)), rowHP vf 77 1 Fs.length hf, starHP (kids rowD hf Fs)]) (fun k => Fs.length - k) 0 [0, 0, 0] (Nat.zero_le _) ?_ ⟨rfl, rfl, rfl, rfl, trivial⟩ ?_
  · have z1 : (madeCells (Value.int .i64 0).cells ((Fs.length : Int).toNat * 1)).toList = nV (lensK Fs 0) := by rw [made1 rfl, lensK_zero]; simp [nV]
    rw [z1]
    exact rfl
  rintro k hk
  by_cases hlt : k < Fs.length
  · obtain ⟨f, hf1⟩ : ∃ f, Fs[k]? = some f := ⟨_, List.getElem?_eq_getElem hlt⟩
    obtain ⟨hd, hhd⟩ : ∃ hd, hf[k]? = some hd := ⟨_, List.getElem?_eq_getElem (by omega)⟩
    have hhd1 : hf[k * 1]? = some hd := by rw [Nat.mul_one]; exact hhd
    have hkd : rowHP hd 76 2 f.length (dsV f) ∈ kids rowD hf Fs := kids_mem (f := rowD) hhd hf1
    have hll := lensK_length hk
    repeat' first
      | refine k_then ?_ | refine c_seq ?_ | refine c_region ?_ | refine s_nil ?_ | refine s_move (by exact rfl) (by exact rfl) ?_ | refine s_assign (by exact rfl) (by exact rfl) ?_ | refine s_lss (by exact rfl) (by exact rfl) (by exact rfl) ?_ | refine s_idx (by exact rfl) (by exact rfl) (by exact rfl) (by assumption) (by first | assumption | omega) ?_ | refine s_ld_row (by exact rfl) (by exact rfl) (by exact .tail _ (.head _)) (by assumption) ?_ | refine c_block ?_ | refine c_skip ?_ | (refine c_cond_p (by exact rfl) (fun h => ?_) (fun h => ?_) <;> try (exfalso; omega)) | fail
    refine know_kid (by exact .tail _ (.tail _ (.head _))) hkd fun hsd _ => ?_
    repeat' first
      | refine s_len (by exact rfl) (by exact rfl) (by assumption) ?_ | refine s_idx (by exact rfl) (by exact rfl) (by exact rfl) (by assumption) (by first | assumption | omega) ?_ | fail
    refine o_st_row (i := 0) (by exact rfl) (by exact rfl) (by exact rfl) rfl (by omega) ?_
    rw [nV_set, lensK_set hf1]
    repeat' first
      | refine k_then ?_ | refine c_region ?_ | refine s_nil ?_ | refine s_move (by exact rfl) (by exact rfl) ?_ | refine s_add (by exact rfl) (by exact rfl) (by exact rfl) (by omega) ?_ | refine k_blk ?_ | fail
    refine c_round (k + 1) [0, 0, 0] (by exact rfl) ⟨rfl, rfl, rfl, rfl, trivial⟩ (by omega) (by omega)
  · repeat' first
      | refine k_then ?_ | refine c_seq ?_ | refine c_region ?_ | refine s_nil ?_ | refine s_move (by exact rfl) (by exact rfl) ?_ | refine s_assign (by exact rfl) (by exact rfl) ?_ | refine s_lss (by exact rfl) (by exact rfl) (by exact rfl) ?_ | refine c_exit ?_ | refine c_ret ?_ | refine k_then_exit ?_ | refine k_blk_eq ?_ | (refine c_cond_p (by exact rfl) (fun h => ?_) (fun h => ?_) <;> try (exfalso; omega)) | fail
    obtain rfl : k = Fs.length := by omega
    refine retL [.tmp 4, .tmp 5] [vo, .int .i64 0] [0] rfl ⟨res_tmp rfl, res_tmp rfl, trivial⟩ (by exact rfl) ⟨vo, rfl, ?_⟩
    rw [lensK_all]
theorem Sides_ok (n : Int) (v : Value) (es : List E) (vr : Value) (hr0 : List Value) (R : List (List Nat)) (w : World) (hs : Shp v es.length) (hr : RO w No v (esV es)) (hG : RightG n es) (hR : ROs w No vr hr0 R) (hRot : RotL n.toNat (tn es) R) (hP : PlaneIs n v vr 0 w) :
    Calls Tryz.prog 28 #[.agg #[.int .i64 n, v], vr] w (Post w No fun r L' => ∃ vo : Value, r = .tuple #[vo, .int .i64 0] ∧ L' = [rowHP vo 57 2 es.length (dsV (sidesL (facesR n.toNat (tn es) R) es))]) := by
  have hsr := hR.shp
  have hrr := hR.ro
  have hmany := hG.many
  have hhi := hG.hi
  refine enter0 (vs := [_, _]) Tryz.func28 rfl Tryz.ntmps28 rfl ?_
  repeat' first
    | refine k_then ?_ | refine c_seq ?_ | refine c_region ?_ | refine s_nil ?_ | refine s_move (by exact rfl) (by exact rfl) ?_ | refine s_assign (by exact rfl) (by exact rfl) ?_ | refine s_ldk_box (by exact rfl) (by exact rfl) (by exact .head _) (by exact rfl) (by exact rfl) ?_ | refine o_box (by exact rfl) (by exact rfl) (fun b => ?_) | fail
  revert b; intro bg
  refine o_call (by exact rfl) (by exact rfl) (fun w h => rounds_ok n v es vr hr0 R w hs (ro_old h hr) hG (ros_old h hR) hRot (hP.old h)) ?_
  rintro _ _ ⟨vf, hf, rfl, hfl, rfl⟩
  refine know_row (v := vf) (by exact .head _) fun hvf _ => ?_
  have hdec := facesR_dec hG hRot
  have hFl : (facesR n.toNat (tn es) R).length ≤ 2 * es.length := by
    have h1 := flat_le (C := facesR n.toNat (tn es) R) fun f hf => (hdec.cy f hf).1
    have h2 := hdec.perm.length_eq
    rw [dartsAll_length hG] at h2
    omega
  have hnd := hdec.perm.nodup_iff.2 hdec.nd
  have hin : ∀ d ∈ (facesR n.toNat (tn es) R).flatten, d.1 < n.toNat ∧ d.2 < n.toNat := fun d hd => dart_lt hG (hdec.perm.mem_iff.1 hd)
  have hed : ∀ e ∈ es, (e.1.toNat, e.2.1.toNat) ∈ (facesR n.toNat (tn es) R).flatten ∧ (e.2.1.toNat, e.1.toNat) ∈ (facesR n.toNat (tn es) R).flatten := fun e he => by
    have h1 : (e.1.toNat, e.2.1.toNat) ∈ tn es := List.mem_map.2 ⟨e, he, rfl⟩
    exact ⟨hdec.perm.mem_iff.2 ((mem_dartsAll hG).2 (.inl h1)), hdec.perm.mem_iff.2 ((mem_dartsAll hG).2 (.inr h1))⟩
  generalize facesR n.toNat (tn es) R = Fs at *
  repeat' first
    | refine k_then ?_ | refine c_seq ?_ | refine c_region ?_ | refine s_nil ?_ | refine s_move (by exact rfl) (by exact rfl) ?_ | refine s_assign (by exact rfl) (by exact rfl) ?_ | refine s_neq (by exact rfl) (by exact rfl) (by exact rfl) ?_ | refine s_extract (by exact rfl) (by exact rfl) (by exact rfl) ?_ | refine c_skip ?_ | (refine c_cond_p (by exact rfl) (fun h => ?_) (fun h => ?_) <;> try (exfalso; omega)) | fail
  refine o_makeMap (by exact rfl) fun bm => ?_
  repeat' first
    | refine k_then ?_ | refine c_seq ?_ | refine c_region ?_ | refine s_nil ?_ | refine s_move (by exact rfl) (by exact rfl) ?_ | refine s_assign (by exact rfl) (by exact rfl) ?_ | refine s_len (by exact rfl) (by exact rfl) (by assumption) ?_ | refine c_block ?_ | fail
  refine c_loop (fun k : Nat => k ≤ Fs.length) (fun k => [(2, .pointer (some ⟨bg, 0, none⟩)), (8, .map (some bm)), (26, vf), (27, .int .i64 (Fs.length : Int)), (28, .int .i64 (k : Int))]) (fun k => [mapHP ekD evN okD (.map (some bm)) (sideL Fs k), rowHP vf 77 1 Fs.length hf, starHP (kids rowD hf Fs), boxHP bg 24 [.int .i64 n, v]]) (fun k => Fs.length - k) 0 [0, 0, 0, 0] (Nat.zero_le _) (by exact rfl) ⟨rfl, rfl, rfl, rfl, rfl, trivial⟩ ?_
  rintro k hk
  by_cases hlt : k < Fs.length
  · obtain ⟨f, hf1⟩ : ∃ f, Fs[k]? = some f := ⟨_, List.getElem?_eq_getElem hlt⟩
    obtain ⟨hd, hhd⟩ : ∃ hd, hf[k]? = some hd := ⟨_, List.getElem?_eq_getElem (by omega)⟩
    have hhd1 : hf[k * 1]? = some hd := by rw [Nat.mul_one]; exact hhd
    have hkd : rowHP hd 76 2 f.length (dsV f) ∈ kids rowD hf Fs := kids_mem (f := rowD) hhd hf1
    have hkeys := sideL_keys Fs k (by omega)
    have hsn := sideL_succ hf1
    have hndi : ((Fs.take k).flatten ++ f).Nodup := by
      have h2 : Fs.flatten = ((Fs.take k).flatten ++ f) ++ (Fs.drop (k + 1)).flatten := by
        rw [show (Fs.take k).flatten ++ f = (Fs.take (k + 1)).flatten from by rw [List.take_add_one, hf1, List.flatten_append]; simp, ← List.flatten_append, List.take_append_drop]
      rw [h2] at hnd
      exact (List.nodup_append.1 hnd).1
    have hfin : ∀ d ∈ f, d.1 < n.toNat ∧ d.2 < n.toNat := fun d hd => hin d (List.mem_flatten.2 ⟨f, List.mem_of_getElem? hf1, hd⟩)
    repeat' first
      | refine k_then ?_ | refine c_seq ?_ | refine c_region ?_ | refine s_nil ?_ | refine s_move (by exact rfl) (by exact rfl) ?_ | refine s_assign (by exact rfl) (by exact rfl) ?_ | refine s_lss (by exact rfl) (by exact rfl) (by exact rfl) ?_ | refine s_idx (by exact rfl) (by exact rfl) (by exact rfl) (by assumption) (by first | assumption | omega) ?_ | refine s_ld_row (by exact rfl) (by exact rfl) (by exact .tail _ (.head _)) (by assumption) ?_ | refine c_block ?_ | refine c_skip ?_ | (refine c_cond_p (by exact rfl) (fun h => ?_) (fun h => ?_) <;> try (exfalso; omega)) | fail
    refine know_kid (by exact .tail _ (.tail _ (.head _))) hkd fun hsd _ => ?_
    have hfm := hsd.1
    simp only [maxLen] at hfm
    repeat' first
      | refine k_then ?_ | refine s_nil ?_ | refine s_move (by exact rfl) (by exact rfl) ?_ | refine s_len (by exact rfl) (by exact rfl) (by assumption) ?_ | refine c_block ?_ | fail
    refine c_loop (fun j : Nat => j ≤ f.length) (fun j => [(2, .pointer (some ⟨bg, 0, none⟩)), (8, .map (some bm)), (9, .int .i64 (k : Int)), (26, vf), (27, .int .i64 (Fs.length : Int)), (28, .int .i64 (k : Int)), (33, hd), (34, .int .i64 (f.length : Int)), (35, .int .i64 (j : Int))]) (fun j => [mapHP ekD evN okD (.map (some bm)) (sideL Fs k ++ (f.take j).map fun d => (d, k)), rowHP vf 77 1 Fs.length hf, starHP (kids rowD hf Fs), boxHP bg 24 [.int .i64 n, v]]) (fun j => f.length - j) 0 [0, 0, 0, 0] (Nat.zero_le _) (by simp only [List.take_zero, List.map_nil, List.append_nil]; exact rfl) ⟨rfl, rfl, rfl, rfl, rfl, rfl, rfl, rfl, rfl, trivial⟩ ?_
    rintro j hj
    by_cases hjl : j < f.length
    · obtain ⟨d, hd1⟩ : ∃ d, f[j]? = some d := ⟨_, List.getElem?_eq_getElem hjl⟩
      have hE := dsV_at hd1
      have hdin := hfin d (List.mem_of_getElem? hd1)
      have hput : putK (sideL Fs k ++ (f.take j).map fun d => (d, k)) d k = sideL Fs k ++ (f.take (j + 1)).map fun d => (d, k) := by
        rw [putK_new, List.take_add_one, hd1, List.map_append, List.append_assoc]
        · rfl
        · intro hm
          rw [List.map_append, hkeys, map_fst_pair] at hm
          have h1 : (((Fs.take k).flatten ++ f.take j) ++ f.drop j).Nodup := by rw [List.append_assoc, List.take_append_drop]; exact hndi
          have h3 : f[j] = d := (List.getElem?_eq_some_iff.1 hd1).2
          rw [List.drop_eq_getElem_cons hjl, h3] at h1
          exact (List.nodup_append.1 h1).2.2 d hm d (.head _) rfl
      repeat' first
        | refine k_then ?_ | refine c_seq ?_ | refine c_region ?_ | refine s_nil ?_ | refine s_lss (by exact rfl) (by exact rfl) (by exact rfl) ?_ | refine s_idx (by exact rfl) (by exact rfl) (by exact rfl) (by assumption) (by first | assumption | omega) ?_ | refine s_ldk_kid (by exact rfl) (by exact rfl) (by assumption) (by exact .tail _ (.tail _ (.head _))) (by decide) (by assumption) (by exact rfl) ?_ | refine o_alloc (by exact rfl) (fun b => ?_) | refine c_block ?_ | refine c_skip ?_ | (refine c_cond_p (by exact rfl) (fun h => ?_) (fun h => ?_) <;> try (exfalso; omega)) | fail
      refine o_stk_box (i := 0) (us := [.int .i64 (d.1 : Int), .int .i64 (d.2 : Int)]) (by exact rfl) (by exact rfl) (by exact rfl) (by exact rfl) (by exact rfl) (by simp [Value.oneCell']) (by simp [Value.cells]) ?_
      repeat' first
        | refine k_then ?_ | refine c_region ?_ | refine s_nil ?_ | refine s_move (by exact rfl) (by exact rfl) ?_ | refine s_ldk_box (by exact rfl) (by exact rfl) (by exact .head _) (by exact rfl) (by exact rfl) ?_ | fail
      refine o_mapup (ek := ekD) (ev := evN) (ok := okD) (i := 1) d k (by exact rfl) (by exact rfl) (by exact rfl) (by exact rfl) (by exact rfl) rfl ⟨by omega, by omega⟩ ?_
      rw [hput]
      repeat' first
        | refine k_then ?_ | refine c_region ?_ | refine s_nil ?_ | refine s_move (by exact rfl) (by exact rfl) ?_ | refine s_add (by exact rfl) (by exact rfl) (by exact rfl) (by omega) ?_ | refine k_blk ?_ | fail
      refine c_round (j + 1) [1, 1, 1, 1] (by exact rfl) ⟨rfl, rfl, rfl, rfl, rfl, rfl, rfl, rfl, rfl, trivial⟩ (by omega) (by omega)
    · repeat' first
        | refine k_then ?_ | refine c_seq ?_ | refine c_region ?_ | refine s_nil ?_ | refine s_move (by exact rfl) (by exact rfl) ?_ | refine s_lss (by exact rfl) (by exact rfl) (by exact rfl) ?_ | refine s_add (by exact rfl) (by exact rfl) (by exact rfl) (by omega) ?_ | refine c_exit ?_ | refine k_then_exit ?_ | refine k_blk ?_ | refine k_blk_eq ?_ | (refine c_cond_p (by exact rfl) (fun h => ?_) (fun h => ?_) <;> try (exfalso; omega)) | fail
      obtain rfl : j = f.length := by omega
      rw [List.take_length, ← hsn]
      refine c_round (k + 1) [0, 0, 0, 0] (by exact rfl) ⟨rfl, rfl, rfl, rfl, rfl, trivial⟩ (by omega) (by omega)
  · repeat' first
      | refine k_then ?_ | refine c_seq ?_ | refine c_region ?_ | refine s_nil ?_ | refine s_fa (by exact rfl) (by exact rfl) ?_ | refine s_ld_box (by exact rfl) (by exact rfl) (by exact .tail _ (.tail _ (.tail _ (.head _)))) (by exact rfl) ?_ | refine s_lss (by exact rfl) (by exact rfl) (by exact rfl) ?_ | refine s_len (by exact rfl) (by exact rfl) (by assumption) ?_ | refine c_exit ?_ | refine k_then_exit ?_ | refine k_blk_eq ?_ | (refine c_cond_p (by exact rfl) (fun h => ?_) (fun h => ?_) <;> try (exfalso; omega)) | fail
    obtain rfl : k = Fs.length := by omega
    refine o_make (by exact rfl) (by exact rfl) (by exact rfl) (by omega) (by omega) fun vo hvo => ?_
    repeat' first
      | refine k_then ?_ | refine c_seq ?_ | refine c_region ?_ | refine s_nil ?_ | refine s_move (by exact rfl) (by exact rfl) ?_ | refine s_assign (by exact rfl) (by exact rfl) ?_ | refine s_fa (by exact rfl) (by exact rfl) ?_ | refine s_ld_box (by exact rfl) (by exact rfl) (by exact .tail _ (.tail _ (.tail _ (.tail _ (.head _))))) (by exact rfl) ?_ | refine s_len (by exact rfl) (by exact rfl) (by assumption) ?_ | refine c_block ?_ | fail
    have hlk : ∀ d ∈ Fs.flatten, (getK (sideL Fs Fs.length) d).getD 0 = faceOf Fs d := fun d hd => by
      rw [getK_some (by rw [sideL_keys Fs _ (Nat.le_refl _), List.take_length]; exact hnd) (sideL_mem hnd hd)]; rfl
    refine c_loop (fun k : Nat => k ≤ es.length) (fun k => [(8, .map (some bm)), (13, vo), (49, v), (50, .int .i64 (es.length : Int)), (51, .int .i64 (k : Int))]) (fun k => [rowHP vo 57 2 es.length (dsV (sidesK Fs es k)), mapHP ekD evN okD (.map (some bm)) (sideL Fs Fs.length)]) (fun k => es.length - k) 0 [0, 0] (Nat.zero_le _) ?_ ⟨rfl, rfl, rfl, rfl, rfl, trivial⟩ ?_
    · have z1 : (madeCells (Value.agg #[.int .i64 0, .int .i64 0]).cells ((es.length : Int).toNat * 2)).toList = dsV (sidesK Fs es 0) := by rw [sidesK_zero, ← made2]; rfl
      rw [z1]
      exact rfl
    rintro k hk
    by_cases hlt : k < es.length
    · obtain ⟨e, he⟩ : ∃ e, es[k]? = some e := ⟨_, List.getElem?_eq_getElem hlt⟩
      have hE := esV_at he
      obtain ⟨o1, o2, o3, o4, _⟩ := hG.ok e (List.mem_of_getElem? he)
      obtain ⟨hm1, hm2⟩ := hed e (List.mem_of_getElem? he)
      have g1 := hlk _ hm1
      have g2 := hlk _ hm2
      have hset := sidesK_set (F := Fs) he
      obtain ⟨x1, x2, x3⟩ := e
      obtain ⟨p, rfl⟩ : ∃ p : Nat, x1 = p := ⟨x1.toNat, by dsimp only at o1; omega⟩
      obtain ⟨q, rfl⟩ : ∃ q : Nat, x2 = q := ⟨x2.toNat, by dsimp only at o1 o2; omega⟩
      simp only [Int.toNat_natCast] at g1 g2 o2 o3
      have hsl := sidesK_length (F := Fs) hk
      repeat' first
        | refine k_then ?_ | refine c_seq ?_ | refine c_region ?_ | refine s_nil ?_ | refine s_move (by exact rfl) (by exact rfl) ?_ | refine s_assign (by exact rfl) (by exact rfl) ?_ | refine s_lss (by exact rfl) (by exact rfl) (by exact rfl) ?_ | refine s_idx (by exact rfl) (by exact rfl) (by exact rfl) (by assumption) (by first | assumption | omega) ?_ | refine s_ldk_ro (by exact rfl) (by exact rfl) (by assumption) (by decide) (by assumption) (by exact rfl) ?_ | refine o_alloc (by exact rfl) (fun b => ?_) | refine c_block ?_ | refine c_skip ?_ | (refine c_cond_p (by exact rfl) (fun h => ?_) (fun h => ?_) <;> try (exfalso; omega)) | fail
      refine o_stk_box (i := 0) (us := eV ((p : Int), (q : Int), x3)) (by exact rfl) (by exact rfl) (by exact rfl) (by exact rfl) (by exact rfl) (by simp [eV, Value.oneCell']) (by simp [Value.cells]) ?_
      repeat' first
        | refine k_then ?_ | refine s_nil ?_ | fail
      refine c_pick [1, 0, 0] (by exact rfl) ?_
      refine p_begin [(0, true), (1, true), (2, true), (3, true), (4, true), (5, true), (6, true), (7, true), (8, true), (9, true), (10, true), (11, true), (12, true), (13, true), (14, true), (15, true), (16, true), (17, true), (18, false)] [boxHP b 40 (eV ((p : Int), (q : Int), x3)), mapHP ekD evN okD (.map (some bm)) (sideL Fs Fs.length)] (by kernel_rfl) ?_
      repeat' first
        | (refine p_at (by exact rfl) ?_
           first
            | refine t_move (by exact rfl) (by exact rfl) (by exact fun _ h => h.tl) ?_ | refine t_fa (by exact rfl) (by exact rfl) (by exact fun _ h => h.tl) ?_ | refine t_ld_box (by exact rfl) (by exact rfl) (by exact .head _) (by exact rfl) (by exact fun _ h => h.tl) ?_ | fail)
        | fail
      refine p_buildt (cs := [.int .i64 (p : Int), .int .i64 (q : Int)]) [(0, .int .i64 (p : Int), [.int .i64 (p : Int)]), (1, .int .i64 (q : Int), [.int .i64 (q : Int)])] (by exact rfl) (by exact rfl) (by exact rfl) (by simp [Value.cells]) ?_ (by exact fun _ h => h.tl) ?_
      · exact rfl
      refine p_at (by exact rfl) ?_
      refine t_look (a := (p, q)) (ek := ekD) (ev0 := evN) (ok := okD) (by exact rfl) (by exact rfl) (by exact rfl) (by exact .tail _ (.head _)) (by exact rfl) g1 ⟨by dsimp only; omega, by dsimp only; omega⟩ (by exact fun _ h => h.tl) ?_
      repeat' first
        | (refine p_at (by exact rfl) ?_
           first
            | refine t_move (by exact rfl) (by exact rfl) (by exact fun _ h => h.tl) ?_ | refine t_fa (by exact rfl) (by exact rfl) (by exact fun _ h => h.tl) ?_ | refine t_ld_box (by exact rfl) (by exact rfl) (by exact .head _) (by exact rfl) (by exact fun _ h => h.tl) ?_ | fail)
        | fail
      refine p_buildt (cs := [.int .i64 (q : Int), .int .i64 (p : Int)]) [(0, .int .i64 (q : Int), [.int .i64 (q : Int)]), (1, .int .i64 (p : Int), [.int .i64 (p : Int)])] (by exact rfl) (by exact rfl) (by exact rfl) (by simp [Value.cells]) ?_ (by exact fun _ h => h.tl) ?_
      · exact rfl
      refine p_at (by exact rfl) ?_
      refine t_look (a := (q, p)) (ek := ekD) (ev0 := evN) (ok := okD) (by exact rfl) (by exact rfl) (by exact rfl) (by exact .tail _ (.head _)) (by exact rfl) g2 ⟨by dsimp only; omega, by dsimp only; omega⟩ (by exact fun _ h => h.tl) ?_
      refine p_at (by exact rfl) ?_
      refine t_build2 (by exact rfl) (by exact rfl) (by exact rfl) (by exact fun _ h => h.tl) ?_
      repeat' first
        | (refine p_at (by exact rfl) ?_
           first
            | refine t_idx (by exact rfl) (by exact rfl) (by exact rfl) (by assumption) (by first | assumption | omega) (by exact fun _ h => h.tl) ?_ | fail)
        | fail
      refine p_stk_row (z := 2) (j := 0) (us := [.int .i64 (faceOf Fs (p, q) : Int), .int .i64 (faceOf Fs (q, p) : Int)]) (by exact rfl) (by exact rfl) (by exact rfl) (by exact rfl) (by exact rfl) (by exact rfl) (by simp [Value.oneCell']) (by decide) (by omega) (fun w h => h.tl) ?_
      repeat' first
        | refine p_nil ?_ | fail
      repeat' first
        | refine k_then ?_ | refine c_region ?_ | refine s_nil ?_ | refine s_move (by exact rfl) (by exact rfl) ?_ | refine s_add (by exact rfl) (by exact rfl) (by exact rfl) (by omega) ?_ | refine k_blk ?_ | fail
      refine c_round (k + 1) [0, 1] ?_ ⟨rfl, rfl, rfl, rfl, rfl, trivial⟩ (by omega) (by omega)
      have hput := putL_dsV (l := sidesK Fs es k) (k := k) (d := (faceOf Fs (p, q), faceOf Fs (q, p))) (by rw [hsl]; exact hlt)
      dsimp only at hput
      rw [← hset, show sidesE Fs ((p : Int), (q : Int), x3) = (faceOf Fs (p, q), faceOf Fs (q, p)) from rfl, ← hput]
      exact rfl
    · repeat' first
        | refine k_then ?_ | refine c_seq ?_ | refine c_region ?_ | refine s_nil ?_ | refine s_move (by exact rfl) (by exact rfl) ?_ | refine s_assign (by exact rfl) (by exact rfl) ?_ | refine s_lss (by exact rfl) (by exact rfl) (by exact rfl) ?_ | refine c_exit ?_ | refine c_ret ?_ | refine k_then_exit ?_ | refine k_blk_eq ?_ | (refine c_cond_p (by exact rfl) (fun h => ?_) (fun h => ?_) <;> try (exfalso; omega)) | fail
      obtain rfl : k = es.length := by omega
      refine retL [.tmp 4, .tmp 5] [vo, .int .i64 0] [0] rfl ⟨res_tmp rfl, res_tmp rfl, trivial⟩ (by exact rfl) ⟨vo, rfl, ?_⟩
      rw [sidesK_all]
end Go.Proofs.YtpajjnkmaebhcaaGreat
end
section
set_option linter.unusedVariables false
set_option linter.unusedSimpArgs false
namespace Go.Sl
open Go Go.RowKit
/-- a struct of two integers -/
class E2Ty (P : Program) (t : TypeId) : Prop where
  g : P.eqGuardType P.depth t = false
  e : ∀ (a b c d : Int) w, (Op.equalIn 10000 t (.agg #[.int .i64 a, .int .i64 b]) (.agg #[.int .i64 c, .int .i64 d])).run P w = .ok (decide (a = c ∧ b = d)) w
section
variable {P : Program} {w0 : World} {S0 : FS} {n : Nat} {F : List (Nat × Value)} {L Lk : List HP} {o : Oper} {x y : Operand} {t t' : TypeId} {a b c e : Int} {rest : List Oper} {ops : Array Oper} {Q : Exit → Act → World → Prop} {d i : Nat} {ty : TypeId} {ps : String} {af : Array Edge} {plan : List PI}
theorem q_eql2 [T : E2Ty P t] (ho : o.op = .binOp .eql t x y t') (hx : ev F x = some (.agg #[.int .i64 a, .int .i64 b])) (hy : ev F y = some (.agg #[.int .i64 c, .int .i64 e])) : R1 P w0 S0 n F L o (.bool (decide (a = c ∧ b = e))) :=
  q_of_pure fun s hf w => by
    simp only [execOp, ho, hf.eval hx, hf.eval hy, Sem.run_bind, Result.andThen_ok, run_eqGuard_agg w _ _ _ _ _ _ T.g, run_eql_struct, T.e]
    rfl
theorem s_eql2 [T : E2Ty P t] (hn : Nat.blt d n = true) (hx : ev F x = some (.agg #[.int .i64 a, .int .i64 b])) (hy : ev F y = some (.agg #[.int .i64 c, .int .i64 e])) (h : Reach w0 S0 n ((d, .bool (decide (a = c ∧ b = e))) :: F) L (wpList P ops Q rest)) : Reach w0 S0 n F L (wpList P ops Q (⟨some d, .binOp .eql t x y t', ty, ps, af, none⟩ :: rest)) := s_q rfl rfl hn (q_eql2 rfl hx hy).q h
theorem t_eql2 [T : E2Ty P t] (hn : Nat.blt d n = true) (hx : ev F x = some (.agg #[.int .i64 a, .int .i64 b])) (hy : ev F y = some (.agg #[.int .i64 c, .int .i64 e])) (hkeep : ∀ w, St w0 S0 L w → St w0 S0 Lk w) (h : RP P w0 S0 n ops Q Lk plan ((d, .bool (decide (a = c ∧ b = e))) :: F) L) : RPo P w0 S0 n ops Q Lk ⟨some d, .binOp .eql t x y t', ty, ps, af, none⟩ i true plan F L := fun ho => p_q ho rfl rfl hn hkeep (q_eql2 rfl hx hy) h
end
open Go.Proofs
instance : E2Ty Tryz.prog 76 where
  g := by kernel_rfl
  e a b c d w := by
    rw [run_equalIn_agg w 9999 _ _ _ (by kernel_rfl) (by kernel_rfl)]
    simp [Program.fieldsOf, Tryz.underlying76, Op.eqFields, part]
    rw [run_equalIn_int w 9998 3 .i64 .i64 a c Tryz.underlying3, Result.andThen_ok]
    by_cases h1 : a = c
    · rw [if_neg (by simp [h1]), run_equalIn_int w 9998 3 .i64 .i64 b d Tryz.underlying3, Result.andThen_ok]
      by_cases h2 : b = d <;> simp [h1, h2]
    · rw [if_pos (by simp [h1])]
      simp [h1]
end Go.Sl
end
section
set_option linter.unusedVariables false
set_option linter.unusedSimpArgs false
namespace Go.Sl
open Go Go.RowKit
/-- a struct of two integers and a third one -/
class E3Ty (P : Program) (t : TypeId) : Prop where
  g : P.eqGuardType P.depth t = false
  e : ∀ (a b c d e f : Int) w, (Op.equalIn 10000 t (.agg #[.int .i64 a, .int .i64 b, .int .i64 c]) (.agg #[.int .i64 d, .int .i64 e, .int .i64 f])).run P w = .ok (decide (a = d ∧ b = e ∧ c = f)) w
section
variable {P : Program} {w0 : World} {S0 : FS} {n : Nat} {F : List (Nat × Value)} {L Lk : List HP} {o : Oper} {x y : Operand} {t t' e : TypeId} {rest : List Oper} {ops : Array Oper} {Q : Exit → Act → World → Prop} {d i : Nat} {ty : TypeId} {ps : String} {af : Array Edge} {plan : List PI} {s : Value} {k m len : Nat}
theorem q_iap [T : ArTy P t len e 1] (j : Nat) (ho : o.op = .indexAddr t x y) (hx : ev F x = some (pv s k)) (hy : ev F y = some (.int .i64 (j : Int))) (hj : j < len) (h2 : 2 ≤ len) (hs : Shp s m) (hm : 0 < m) : R1 P w0 S0 n F L o (pv s (k + j)) :=
  q_of_pure fun a hf w => by
    rcases hs.2 with ⟨rfl, rfl⟩ | ⟨g, off, cap, rfl, _⟩ | ⟨_, rfl⟩
    · omega
    · have hx' := hf.eval hx
      simp only [pv] at hx'
      have h3 : ¬ len ≤ 1 := by omega
      simp [execOp, ho, hx', hf.eval hy, Instr.indexAt, Instr.sureAddr, asIntOf, run_underlying T.u, T.size, pv, Addr.add, Nat.add_assoc, h3, hj]
    · omega
theorem t_iap [T : ArTy P t len e 1] (j : Nat) (hn : Nat.blt d n = true) (hx : ev F x = some (pv s k)) (hy : ev F y = some (.int .i64 (j : Int))) (hj : j < len) (h2 : 2 ≤ len) (hs : Shp s m) (hm : 0 < m) (hkeep : ∀ w, St w0 S0 L w → St w0 S0 Lk w) (h : RP P w0 S0 n ops Q Lk plan ((d, pv s (k + j)) :: F) L) : RPo P w0 S0 n ops Q Lk ⟨some d, .indexAddr t x y, ty, ps, af, none⟩ i true plan F L := fun ho => p_q ho rfl rfl hn hkeep (q_iap j rfl hx hy hj h2 hs hm) h
theorem q_neq3 {a b c a' b' c' : Int} [T : E3Ty P t] (ho : o.op = .binOp .neq t x y t') (hx : ev F x = some (.agg #[.int .i64 a, .int .i64 b, .int .i64 c])) (hy : ev F y = some (.agg #[.int .i64 a', .int .i64 b', .int .i64 c'])) : R1 P w0 S0 n F L o (.bool (!decide (a = a' ∧ b = b' ∧ c = c'))) :=
  q_of_pure fun s hf w => by
    simp only [execOp, ho, hf.eval hx, hf.eval hy, Sem.run_bind, Result.andThen_ok, run_eqGuard_agg w _ _ _ _ _ _ T.g, run_neq_struct, T.e]
    rfl
end
open Go.Proofs
instance : E3Ty Tryz.prog 40 where
  g := by kernel_rfl
  e a b c d e f w := by
    rw [run_equalIn_agg w 9999 _ _ _ (by kernel_rfl) (by kernel_rfl)]
    simp [Program.fieldsOf, Tryz.underlying40, Op.eqFields, part]
    rw [run_equalIn_int w 9998 3 .i64 .i64 a d Tryz.underlying3, Result.andThen_ok]
    by_cases h1 : a = d
    · rw [if_neg (by simp [h1]), run_equalIn_int w 9998 3 .i64 .i64 b e Tryz.underlying3, Result.andThen_ok]
      by_cases h2 : b = e
      · rw [if_neg (by simp [h2]), run_equalIn_int w 9998 2 .i64 .i64 c f Tryz.underlying2, Result.andThen_ok]
        by_cases h3 : c = f <;> simp [h1, h2, h3]
      · rw [if_pos (by simp [h2])]
        simp [h1, h2]
    · rw [if_pos (by simp [h1])]
      simp [h1]
end Go.Sl
end
section
set_option linter.unusedVariables false
set_option linter.unusedSimpArgs false
namespace Go.Sl
open Go Go.RowKit
section
variable {P : Program} {w0 : World} {S0 : FS} {n : Nat} {F : List (Nat × Value)} {L Lk : List HP} {ops : Array Oper} {Q : Exit → Act → World → Prop}
/-- whatever order the operations of seg come up in, and behind them K -/
def wpSeg (P : Program) (ops : Array Oper) (Q : Exit → Act → World → Prop) (S : World → Prop) (seg : List Nat) (K : Array Bool → Act → World → Prop) : Nat → Array Bool → Act → World → Prop
  | 0, l, a, w => (∀ j ∈ seg, l.getD j true = true) ∧ K l a w
  | n + 1, l, a, w => Region.ready .any ops l ≠ [] ∧ ∀ i ∈ Region.ready .any ops l, i ∈ seg ∧ wpOp P ops Q i (fun a' w' => S w' ∧ wpSeg P ops Q S seg K n (l.setIfInBounds i true) a' w') a w
theorem wpSeg_any {S : World → Prop} {seg : List Nat} {m : Nat} : ∀ (k : Nat) (l : Array Bool) (a : Act) (w : World), wpSeg P ops Q S seg (wpAny P .any ops Q m) k l a w → wpAny P .any ops Q (m + k) l a w
  | 0, _, _, _, h => h.2
  | k + 1, l, a, w, h => ⟨fun e => absurd e h.1, fun i hi => wpOp_mono (fun a' w' h' => wpSeg_any k _ a' w' h'.2) (h.2 i hi).2⟩
theorem wpSeg_first {S : World → Prop} {seg : List Nat} {K : Array Bool → Act → World → Prop} {i : Nat} {oi : Oper} {v : Value} (hi : ops[i]? = some oi) (hsel : ∀ (j : Nat) (o : Oper) cs b, ops[j]? = some o → o.op ≠ .select cs b)
    (hQ : ∀ c a w, Q (.panic c) (a.put oi.dst v) w → Q (.panic c) a w) (hseg : i ∈ seg) (hdep : ∀ j oj, ops[j]? = some oj → j ∉ seg → ∃ e ∈ oj.after, Region.binds .any e = true ∧ e.on = i) :
    ∀ (k : Nat) (l : Array Bool) (a : Act) (w : World),
      (∀ j oj, ops[j]? = some oj → j ≠ i → l.getD j true = false → (∀ e ∈ oj.after, Region.binds .any e = true → e.on ≠ i) → oi.apart ops oj = true) →
      i ∈ Region.ready .any ops l → YieldsIf P ops S oi v a → S w →
      wpSeg P ops Q S seg K k (l.setIfInBounds i true) (a.put oi.dst v) w → wpSeg P ops Q S seg K (k + 1) l a w := by
  have waits : ∀ (l : Array Bool) (e : Edge), l.getD i true = false → e.on = i → l.getD e.on false = true → False := by
    intro l e h0 heq h1
    rw [heq] at h1
    rcases Nat.lt_or_ge i l.size with h' | h'
    · simp [h'] at h0 h1; rw [h0] at h1; cases h1
    · simp [Array.getElem?_eq_none h'] at h1
  intro k
  induction k with
  | zero =>
    intro l a w _ hr hy hS H
    refine ⟨fun e => (by rw [e] at hr; cases hr), fun j hj => ?_⟩
    by_cases hji : j = i
    · subst hji; exact ⟨hseg, hy.wpOp hi hS ⟨hS, H⟩⟩
    · exfalso
      obtain ⟨hun, oj, hoj, hall⟩ := mem_ready.1 hj
      by_cases hjs : j ∈ seg
      · have := H.1 j hjs
        rw [getD_set_ne true (Ne.symm hji), hun] at this
        cases this
      · obtain ⟨e, he, hb, heq⟩ := hdep j oj hoj hjs
        exact waits l e (mem_ready.1 hr).1 heq (hall e he hb)
  | succ k ih =>
    intro l a w hfree hr hy hS H
    refine ⟨fun e => (by rw [e] at hr; cases hr), fun j hj => ?_⟩
    by_cases hji : j = i
    · subst hji; exact ⟨hseg, hy.wpOp hi hS ⟨hS, H⟩⟩
    · obtain ⟨hjs, h1⟩ := H.2 j (ready_mono hj hji)
      refine ⟨hjs, ?_⟩
      obtain ⟨hun, oj, hoj, hall⟩ := mem_ready.1 hj
      have hnot : ∀ e ∈ oj.after, Region.binds .any e = true → e.on ≠ i := fun e he hb heq => waits l e (mem_ready.1 hr).1 heq (hall e he hb)
      have h2 := wpOp_putIf hoj (hfree j oj hoj hji hun hnot) (fun cs b => hsel i oi cs b hi) (fun cs b => hsel j oj cs b hoj) hQ hy h1
      refine wpOp_mono (fun a' w' h3 => ⟨h3.2.1, ih (l.setIfInBounds j true) a' w' (fun k ok hk hki hu hno => ?_) (ready_mono hr (Ne.symm hji)) h3.1 h3.2.1 ?_⟩) h2
      · refine hfree k ok hk hki ?_ hno
        by_cases hjk : j = k
        · subst hjk; exact hun
        · rw [getD_set_ne true hjk] at hu; exact hu
      · rw [Array.setIfInBounds_comm _ _ hji]
        exact h3.2.2
/-- the end of the first phase: what the second one asks -/
def cutK (P : Program) (ops : Array Oper) (Q : Exit → Act → World → Prop) (plan : List PI) : Exit → Act → World → Prop
  | .normal, a, w => ∃ S : World → Prop, S w ∧ PW P ops Q S plan a w
  | e, a, w => Q e a w
instance {plan : List PI} [T : PO Q] : PO (cutK P ops Q plan) := ⟨fun c a d v w h => T.ok c a d v w h⟩
theorem wpOp_cutK {plan : List PI} {i : Nat} {K : Act → World → Prop} {a : Act} {w : World} (h : wpOp P ops (cutK P ops Q plan) i K a w) : wpOp P ops Q i K a w := by
  unfold wpOp at *
  split
  · rename_i ho
    rw [ho] at h
    exact h
  · rename_i o ho
    rw [ho] at h
    dsimp only at h
    split
    · rename_i hw
      rw [if_pos hw] at h
      refine h.imp (fun h => ?_) (fun h => ⟨h.1, h.2⟩)
      unfold Oper.wp at *
      generalize (execOp a.eval o).run P w = r at *
      unfold Oper.upon at *
      split at h
      all_goals first
        | exact h
        | exact Calls.mono h fun e w'' he => by cases e <;> exact he
    · rename_i hw
      rw [if_neg hw] at h
      exact h
def PT.ids : PT → List Nat
  | .leaf => []
  | .one i a => i :: a.ids
  | .two i a j b => i :: j :: (a.ids ++ b.ids)
def segOf : List PI → List Nat
  | [] => []
  | .mk i _ :: l => i :: segOf l
  | .rd i j :: l => i :: j :: segOf l
  | .tree t :: l => t.ids ++ segOf l
def depsOk (ops : Array Oper) (seg : List Nat) (i : Nat) : Bool :=
  seg.contains i && (List.range ops.size).all fun j => seg.contains j || (match ops[j]? with | some o => o.after.any fun e => Region.binds .any e && e.on == i | none => true)
def treeOk1 (ops : Array Oper) (seg : List Nat) (k : Array Bool → Bool) : Array Bool → PT → Bool
  | listed, .leaf => k listed
  | listed, .one i a => seg.contains i && Region.ready .any ops listed == [i] && treeOk1 ops seg k (listed.setIfInBounds i true) a
  | listed, .two i a j b => seg.contains i && seg.contains j && (Region.ready .any ops listed == [i, j] || Region.ready .any ops listed == [j, i]) && a.n == b.n && treeOk1 ops seg k (listed.setIfInBounds i true) a && treeOk1 ops seg k (listed.setIfInBounds j true) b
def planOk1 (ops : Array Oper) (seg : List Nat) (plan2 : List PI) : Array Bool → List PI → Bool
  | listed, [] => seg.all (fun j => listed.getD j true) && planOk ops listed plan2
  | listed, .rd _ _ :: _ => false
  | listed, .tree t :: rest => treeOk1 ops seg (fun l => planOk1 ops seg plan2 l rest) listed t
  | listed, .mk i t :: rest => (if t then (Region.ready .any ops listed).contains i && Region.free .any ops listed i && depsOk ops seg i else seg.contains i && Region.ready .any ops listed == [i]) && planOk1 ops seg plan2 (listed.setIfInBounds i true) rest
theorem pwt_sound1 {S : World → Prop} {plan2 : List PI} {seg : List Nat} {K : Act → World → Prop} {KK : Array Bool → Act → World → Prop} {k : Array Bool → Bool} {m : Nat} (hk : ∀ l a w, k l = true → K a w → wpSeg P ops Q S seg KK m l a w) : ∀ (t : PT) (listed : Array Bool) (a : Act) (w : World), treeOk1 ops seg k listed t = true → PWt P ops (cutK P ops Q plan2) S K t a w → wpSeg P ops Q S seg KK (m + t.n) listed a w
  | .leaf, listed, a, w, hp, h => hk listed a w hp h
  | .one i t, listed, a, w, hp, h => by
    simp only [treeOk1, Bool.and_eq_true] at hp
    have e : Region.ready .any ops listed = [i] := by simpa using hp.1.2
    refine ⟨by rw [e]; simp, fun j hj => ?_⟩
    rw [e] at hj
    obtain rfl : j = i := by simpa using hj
    exact ⟨by simpa using hp.1.1, wpOp_mono (fun a' w' ⟨h1, h2⟩ => ⟨h1, pwt_sound1 hk t _ _ _ hp.2 h2⟩) (wpOp_cutK h)⟩
  | .two i t j u, listed, a, w, hp, h => by
    simp only [treeOk1, Bool.and_eq_true, Bool.or_eq_true, beq_iff_eq] at hp
    obtain ⟨⟨⟨⟨⟨s1, s2⟩, h1⟩, h2⟩, h3⟩, h4⟩ := hp
    have key : ∀ k, k = i ∨ k = j → k ∈ seg ∧ wpOp P ops Q k (fun a' w' => S w' ∧ wpSeg P ops Q S seg KK (m + t.n) (listed.setIfInBounds k true) a' w') a w := by
      rintro k (rfl | rfl)
      · exact ⟨by simpa using s1, wpOp_mono (fun a' w' ⟨h5, h6⟩ => ⟨h5, pwt_sound1 hk t _ _ _ h3 h6⟩) (wpOp_cutK h.1)⟩
      · rw [h2]
        exact ⟨by simpa using s2, wpOp_mono (fun a' w' ⟨h5, h6⟩ => ⟨h5, pwt_sound1 hk u _ _ _ h4 h6⟩) (wpOp_cutK h.2)⟩
    rcases h1 with h1 | h1
    · exact ⟨by rw [h1]; simp, fun k hk => key k (by rw [h1] at hk; simpa using hk)⟩
    · exact ⟨by rw [h1]; simp, fun k hk => key k (by rw [h1] at hk; simpa [or_comm] using hk)⟩
theorem pw_sound1 [T : PO Q] {S : World → Prop} {seg : List Nat} {plan2 : List PI} (hs : Region.noSelect ops = true) : ∀ (plan : List PI) (listed : Array Bool) (a : Act) (w : World), planOk1 ops seg plan2 listed plan = true → PW P ops (cutK P ops Q plan2) S plan a w → wpSeg P ops Q S seg (wpAny P .any ops Q (planLen plan2)) (planLen plan) listed a w
  | [], listed, a, w, hp, h => by
    simp only [planOk1, Bool.and_eq_true, List.all_eq_true] at hp
    obtain ⟨S', hS', h⟩ := h
    exact ⟨hp.1, wpAny_of_held _ _ _ _ (pw_sound hs plan2 _ _ _ hp.2 h)⟩
  | .rd i j :: rest, listed, a, w, hp, h => by simp [planOk1] at hp
  | .tree t :: rest, listed, a, w, hp, h => by
    show wpSeg P ops Q S seg _ (planLen rest + t.n) listed a w
    exact pwt_sound1 (fun l a w hl hK => pw_sound1 hs rest l a w hl hK) t listed a w hp h
  | .mk i true :: rest, listed, a, w, hp, h => by
    obtain ⟨o, v, ho, hy, hS, hr⟩ := h
    simp only [planOk1, if_true, Bool.and_eq_true, depsOk, List.all_eq_true, Bool.or_eq_true] at hp
    obtain ⟨⟨⟨h1, h2⟩, h3, h4⟩, h5⟩ := hp
    refine wpSeg_first ho (Region.noSelect_spec hs) (fun c a w h => T.ok c a _ _ w h) (by simpa using h3) (fun j oj hoj hjs => ?_) (planLen rest) listed a w (Region.free_spec ho h2) (by simpa using h1) hy hS (pw_sound1 hs rest _ _ _ h5 hr)
    have := h4 j (by simpa using (Array.getElem?_eq_some_iff.1 hoj).1)
    rcases this with h | h
    · exact absurd (by simpa using h) hjs
    · rw [hoj] at h
      dsimp only at h
      rw [← Array.any_toList, List.any_eq_true] at h
      obtain ⟨e, h1, h2⟩ := h
      simp only [Bool.and_eq_true, beq_iff_eq] at h2
      exact ⟨e, by simpa using h1, h2.1, h2.2⟩
  | .mk i false :: rest, listed, a, w, hp, h => by
    simp only [planOk1, Bool.and_eq_true, Bool.false_eq_true, if_false] at hp
    have e : Region.ready .any ops listed = [i] := by simpa using hp.1.2
    refine ⟨by rw [e]; simp, fun j hj => ?_⟩
    rw [e] at hj
    obtain rfl : j = i := by simpa using hj
    exact ⟨by simpa using hp.1.1, wpOp_mono (fun a' w' ⟨h1, h2⟩ => ⟨h1, pw_sound1 hs rest _ _ _ hp.2 h2⟩) (wpOp_cutK h)⟩
/-- two plans, one behind the other: Lk holds during the first -/
theorem p_begin2 [T : PO Q] {id : Nat} {l : List Oper} (plan1 plan2 : List PI) (Lk : List HP) (hm : (P.follows .mixedOrders && Region.noSelect l.toArray && planOk1 l.toArray (segOf plan1) plan2 (Array.replicate l.toArray.size false) plan1 && (planLen plan2 + planLen plan1 == l.toArray.size)) = true)
    (h : RP P w0 S0 n l.toArray (cutK P l.toArray Q plan2) Lk plan1 F L) : Reach w0 S0 n F L ((Code.region id l.toArray true).wp P Q) := by
  simp only [Bool.and_eq_true, beq_iff_eq] at hm
  obtain ⟨⟨⟨h1, h2⟩, h3⟩, h4⟩ := hm
  intro a w hf hs
  refine wp_region_any h1 ?_
  have := wpSeg_any _ _ _ _ (pw_sound1 (Q := Q) h2 plan1 _ _ _ h3 (h a _ hf hs.drew))
  rwa [h4] at this
theorem p_cut {plan : List PI} (Lk : List HP) (hL : ∀ w, St w0 S0 L w → St w0 S0 Lk w) (h : RP P w0 S0 n ops Q Lk plan F L) : Reach w0 S0 n F L (cutK P ops Q plan .normal) :=
  fun a w hf hs => ⟨St w0 S0 Lk, hL w hs, h a w hf hs⟩
end
end Go.Sl
end
section
set_option linter.unusedVariables false
namespace Fil
theorem dualL_take {F : List (List (Nat × Nat))} {es : List E} {k : Nat} {e : E} (h : es[k]? = some e) : dualL F (es.take (k + 1)) = dualL F (es.take k) ++ [dualE F e] := by
  rw [List.take_add_one, h, dualL, List.map_append]; rfl
theorem sidesL_at {F : List (List (Nat × Nat))} {es : List E} {k : Nat} {e : E} (h : es[k]? = some e) : (sidesL F es)[k]? = some (sidesE F e) := by
  rw [sidesL, List.getElem?_map, h]; rfl
end Fil
namespace Go.Proofs.YtpajjnkmaebhcaaGreat
open Go Go.RowKit Go.Sl Fil
theorem esV_cat (a b : List E) : esV (a ++ b) = esV a ++ esV b := by simp [esV]
set_option maxRecDepth 100000
set_option maxHeartbeats 8000000
set_option linter.unusedVariables false
set_option linter.unusedSimpArgs false
attribute [local irreducible] Code.wp wpList bodyPost wpQuiet Exit.then Exit.inBlock Post wpAnyH wpOp
theorem Dual_ok (n : Int) (v : Value) (es : List E) (vr : Value) (hr0 : List Value) (R : List (List Nat)) (w : World) (hs : Shp v es.length) (hr : RO w No v (esV es)) (hG : RightG n es) (hR : ROs w No vr hr0 R) (hRot : RotL n.toNat (tn es) R) (hP : PlaneIs n v vr 0 w) :
    Calls Tryz.prog 15 #[.agg #[.int .i64 n, v], vr] w (Post w No fun r L' => ∃ ve : Value, r = .tuple #[.agg #[.int .i64 ((facesR n.toNat (tn es) R).length : Int), ve], .int .i64 0] ∧ L' = [rowHP ve 40 3 es.length (esV (dualL (facesR n.toNat (tn es) R) es))]) := by
  have hsr := hR.shp
  have hrr := hR.ro
  have hmany := hG.many
  refine enter0 (vs := [_, _]) Tryz.func15 rfl Tryz.ntmps15 rfl ?_
  repeat' first
    | refine k_then ?_ | refine c_seq ?_ | refine c_region ?_ | refine s_nil ?_ | refine s_move (by exact rfl) (by exact rfl) ?_ | refine s_assign (by exact rfl) (by exact rfl) ?_ | refine s_ldk_box (by exact rfl) (by exact rfl) (by exact .tail _ (.head _)) (by exact rfl) (by exact rfl) ?_ | refine o_box (by exact rfl) (by exact rfl) (fun b => ?_) | refine o_alloc (by exact rfl) (fun b => ?_) | fail
  rename_i bg
  revert b; intro b4
  refine o_call (by exact rfl) (by exact rfl) (fun w h => Lengths_ok n v es vr hr0 R w hs (ro_old h hr) hG (ros_old h hR) hRot (hP.old h)) ?_
  rintro _ _ ⟨vn, rfl, rfl⟩
  refine know_row (v := vn) (by exact .head _) fun hvn _ => ?_
  repeat' first
    | refine k_then ?_ | refine c_seq ?_ | refine c_region ?_ | refine s_nil ?_ | refine s_move (by exact rfl) (by exact rfl) ?_ | refine s_assign (by exact rfl) (by exact rfl) ?_ | refine s_neq (by exact rfl) (by exact rfl) (by exact rfl) ?_ | refine s_extract (by exact rfl) (by exact rfl) (by exact rfl) ?_ | refine s_ldk_box (by exact rfl) (by exact rfl) (by exact .tail _ (.tail _ (.head _))) (by exact rfl) (by exact rfl) ?_ | refine c_skip ?_ | (refine c_cond_p (by exact rfl) (fun h => ?_) (fun h => ?_) <;> try (exfalso; omega)) | fail
  refine o_call (by exact rfl) (by exact rfl) (fun w h => Sides_ok n v es vr hr0 R w hs (ro_old h hr) hG (ros_old h hR) hRot (hP.old h)) ?_
  rintro _ _ ⟨vs, rfl, rfl⟩
  refine know_row (v := vs) (by exact .head _) fun hvs _ => ?_
  generalize facesR n.toNat (tn es) R = Fs at *
  repeat' first
    | refine k_then ?_ | refine c_seq ?_ | refine c_region ?_ | refine s_nil ?_ | refine s_move (by exact rfl) (by exact rfl) ?_ | refine s_assign (by exact rfl) (by exact rfl) ?_ | refine s_len (by exact rfl) (by exact rfl) (by assumption) ?_ | refine s_extract (by exact rfl) (by exact rfl) (by exact rfl) ?_ | fail
  refine o_build (cs := [.int .i64 (Fs.length : Int), .slice none 0 0]) [(0, .int .i64 (Fs.length : Int), [.int .i64 (Fs.length : Int)])] (by exact rfl) (by exact rfl) (by simp [Value.cells]) (by exact rfl) ?_
  repeat' first
    | refine o_alloc (by exact rfl) (fun b => ?_) | fail
  revert b; intro b10
  refine o_stk_box (i := 0) (us := [.int .i64 (Fs.length : Int), .slice none 0 0]) (by exact rfl) (by exact rfl) (by exact rfl) (by exact rfl) (by exact rfl) (by simp [Value.oneCell']) (by simp [Value.cells]) ?_
  repeat' first
    | refine k_then ?_ | refine c_seq ?_ | refine c_region ?_ | refine s_nil ?_ | refine s_move (by exact rfl) (by exact rfl) ?_ | refine s_fa (by exact rfl) (by exact rfl) ?_ | refine s_ld_box (by exact rfl) (by exact rfl) (by exact .tail _ (.tail _ (.tail _ (.tail _ (.head _))))) (by exact rfl) ?_ | refine s_len (by exact rfl) (by exact rfl) (by assumption) ?_ | refine c_block ?_ | fail
  refine c_nil 40 3 ?_
  refine c_loop (fun x : Nat × Value => x.1 ≤ es.length) (fun x => [(4, .pointer (some ⟨b4, 0, none⟩)), (8, vs), (10, .pointer (some ⟨b10, 0, none⟩)), (33, v), (34, .int .i64 (es.length : Int)), (35, .int .i64 (x.1 : Int))])
    (fun x => [rowHP x.2 40 3 x.1 (esV (dualL Fs (es.take x.1))), boxHP b10 24 [.int .i64 (Fs.length : Int), x.2], rowHP vs 57 2 es.length (dsV (sidesL Fs es)), boxHP b4 24 [.int .i64 0, .slice none 0 0]]) (fun x => es.length - x.1) (0, .slice none 0 0) [0, 0, 0, 1] (Nat.zero_le _) (by exact rfl) ⟨rfl, rfl, rfl, rfl, rfl, rfl, trivial⟩ ?_
  rintro ⟨k, ve⟩ hk
  dsimp only at hk ⊢
  refine know_row (v := ve) (.head _) fun hve _ => ?_
  by_cases hlt : k < es.length
  · obtain ⟨e, he⟩ : ∃ e, es[k]? = some e := ⟨_, List.getElem?_eq_getElem hlt⟩
    have hE := esV_at he
    have htk := dualL_take (F := Fs) he
    obtain ⟨hd1, hd2⟩ := dsV_get (sidesL_at (F := Fs) he)
    have hd0 : (dsV (sidesL Fs es))[k * 2 + 0]? = some (.int .i64 ((sidesE Fs e).1 : Int)) := hd1
    have hpos : 0 < es.length := by omega
    repeat' first
      | refine k_then ?_ | refine c_seq ?_ | refine c_region ?_ | refine s_nil ?_ | refine s_move (by exact rfl) (by exact rfl) ?_ | refine s_assign (by exact rfl) (by exact rfl) ?_ | refine s_lss (by exact rfl) (by exact rfl) (by exact rfl) ?_ | refine s_idx (by exact rfl) (by exact rfl) (by exact rfl) (by assumption) (by first | assumption | omega) ?_ | refine s_ldk_ro (by exact rfl) (by exact rfl) (by assumption) (by decide) (by assumption) (by exact rfl) ?_ | refine o_alloc (by exact rfl) (fun b => ?_) | refine c_block ?_ | refine c_skip ?_ | (refine c_cond_p (by exact rfl) (fun h => ?_) (fun h => ?_) <;> try (exfalso; omega)) | fail
    refine o_stk_box (i := 0) (us := eV e) (by exact rfl) (by exact rfl) (by exact rfl) (by exact rfl) (by exact rfl) (by simp [eV, Value.oneCell']) (by simp [Value.cells]) ?_
    repeat' first
      | refine k_then ?_ | refine s_nil ?_ | fail
    refine c_pick [1, 0, 0, 0, 0] (by exact rfl) ?_
    refine p_begin2 [(0, true), (1, true), (2, true), (3, true), (4, true), (5, true), (6, true), (7, true), (8, true), (9, true), (10, true), (11, true), (12, true), (13, true), (14, true), (15, false), (16, false)] [(17, true), (18, false)] [boxHP b 40 (eV e), boxHP b10 24 [.int .i64 (Fs.length : Int), ve], rowHP vs 57 2 es.length (dsV (sidesL Fs es)), boxHP b4 24 [.int .i64 0, .slice none 0 0]] (by kernel_rfl) ?_
    repeat' first
      | (refine p_at (by exact rfl) ?_
         first
          | refine t_move (by exact rfl) (by exact rfl) (by exact fun _ h => h.tl) ?_ | refine t_fa (by exact rfl) (by exact rfl) (by exact fun _ h => h.tl) ?_ | refine t_ld_box (by exact rfl) (by exact rfl) (by exact .tail _ (.head _)) (by exact rfl) (by exact fun _ h => h.tl) ?_ | refine t_idx (by exact rfl) (by exact rfl) (by exact rfl) (by assumption) (by first | assumption | omega) (by exact fun _ h => h.tl) ?_ | fail)
      | fail
    refine p_at (by exact rfl) ?_
    refine t_iap 0 (by exact rfl) (by exact rfl) (by exact rfl) (by omega) (by omega) hvs hpos (by exact fun _ h => h.tl) ?_
    repeat' first
      | (refine p_at (by exact rfl) ?_
         first
          | refine t_move (by exact rfl) (by exact rfl) (by exact fun _ h => h.tl) ?_ | refine t_idx (by exact rfl) (by exact rfl) (by exact rfl) (by assumption) (by first | assumption | omega) (by exact fun _ h => h.tl) ?_ | refine t_ld_row (by exact rfl) (by exact rfl) (by exact .tail _ (.tail _ (.head _))) (by assumption) (by exact fun _ h => h.tl) ?_ | fail)
      | fail
    refine p_at (by exact rfl) ?_
    refine t_iap 1 (by exact rfl) (by exact rfl) (by exact rfl) (by omega) (by omega) hvs hpos (by exact fun _ h => h.tl) ?_
    repeat' first
      | (refine p_at (by exact rfl) ?_
         first
          | refine t_fa (by exact rfl) (by exact rfl) (by exact fun _ h => h.tl) ?_ | refine t_ld_box (by exact rfl) (by exact rfl) (by exact .head _) (by exact rfl) (by exact fun _ h => h.tl) ?_ | refine t_ld_row (by exact rfl) (by exact rfl) (by exact .tail _ (.tail _ (.head _))) (by assumption) (by exact fun _ h => h.tl) ?_ | fail)
      | fail
    refine p_buildt (cs := eV (dualE Fs e)) [(0, .int .i64 ((sidesE Fs e).1 : Int), [.int .i64 ((sidesE Fs e).1 : Int)]), (1, .int .i64 ((sidesE Fs e).2 : Int), [.int .i64 ((sidesE Fs e).2 : Int)]), (2, .int .i64 e.2.2, [.int .i64 e.2.2])] (by exact rfl) (by exact rfl) (by exact rfl) (by simp [Value.cells]) ?_ (by exact fun _ h => h.tl) ?_
    · exact rfl
    refine p_mk (sz := 3) [.agg (eV (dualE Fs e)).toArray] (by exact rfl) (by exact rfl) (by exact rfl) rfl (by simp [Value.cells, eV]) (by simp) (by simp) (fun _ _ h => h.tl.tl) fun v2 hv2 => ?_
    refine p_append_row (bytes := 24) (c := 1) (j := 1) (by exact rfl) (by exact rfl) (by exact rfl) (by exact rfl) (by exact rfl) (.head _) (by simp [Value.cells, eV]) (by simp [Value.cells, eV, Value.oneCell']) (by omega) (fun _ _ h => h.tl.tl) (fun v3 hv3 => ?_)
    refine p_nil ?_
    refine p_cut [boxHP b4 24 [.int .i64 0, .slice none 0 0]] (fun _ h => h.pick [5] (by exact rfl)) ?_
    refine p_at (by exact rfl) ?_
    refine t_fa (by exact rfl) (by exact rfl) (fun _ h => h.pick [5] (by exact rfl)) ?_
    refine p_st_box (j := 3) (by exact rfl) (by exact rfl) (by exact rfl) (by exact rfl) hv3.one (by simp) (fun _ h => h.pick [5] (by exact rfl)) ?_
    refine p_nil ?_
    repeat' first
      | refine k_then ?_ | refine c_region ?_ | refine s_nil ?_ | refine s_move (by exact rfl) (by exact rfl) ?_ | refine s_add (by exact rfl) (by exact rfl) (by exact rfl) (by omega) ?_ | refine k_blk ?_ | fail
    refine c_round (k + 1, v3) [1, 2, 2, 2] ?_ ⟨rfl, rfl, rfl, rfl, rfl, rfl, trivial⟩ (by dsimp only; omega) (by dsimp only; omega)
    dsimp only
    rw [htk, esV_cat]
    exact rfl
  · repeat' first
      | refine k_then ?_ | refine c_seq ?_ | refine c_region ?_ | refine s_nil ?_ | refine s_lss (by exact rfl) (by exact rfl) (by exact rfl) ?_ | refine s_ldk_box (by exact rfl) (by exact rfl) (by exact .tail _ (.head _)) (by exact rfl) (by exact rfl) ?_ | refine c_exit ?_ | refine k_then_exit ?_ | refine k_blk_eq ?_ | (refine c_cond_p (by exact rfl) (fun h => ?_) (fun h => ?_) <;> try (exfalso; omega)) | fail
    obtain rfl : k = es.length := by omega
    rw [List.take_length]
    refine o_stk_box (i := 3) (us := [.int .i64 (Fs.length : Int), ve]) (by exact rfl) (by exact rfl) (by exact rfl) (by exact rfl) (by exact rfl) (by
      intro u hu
      simp only [List.mem_cons, List.not_mem_nil, or_false] at hu
      rcases hu with rfl | rfl
      · rfl
      · exact hve.one) (by simp [Value.cells]) ?_
    repeat' first
      | refine k_then ?_ | refine s_nil ?_ | refine s_assign (by exact rfl) (by exact rfl) ?_ | refine c_ret ?_ | fail
    refine retL [.cell 4 24, .tmp 5] [.agg #[.int .i64 (Fs.length : Int), ve], .int .i64 0] [0] rfl ⟨res_cellk (tb := 24) (cs := [.int .i64 (Fs.length : Int), ve]) (k := 2) (off := 0) (us := [.int .i64 (Fs.length : Int), ve]) rfl (.tail _ (.tail _ (.tail _ (.head _)))) rfl rfl, res_tmp rfl, trivial⟩ (by exact rfl) ⟨ve, rfl, rfl⟩
end Go.Proofs.YtpajjnkmaebhcaaGreat
end
section
set_option linter.unusedVariables false
namespace Go.Proofs.YtpajjnkmaebhcaaGreat
open Go Go.RowKit Go.Sl Fil
theorem planeIs_ok {n : Int} {v : Value} {es : List E} {vr : Value} {hr0 : List Value} {R : List (List Nat)} {o lab : Nat → Nat} {w : World} (hs : Shp v es.length) (hr : RO w No v (esV es)) (hG : RightG n es) (hR : ROs w No vr hr0 R) (hRot : RotL n.toNat (tn es) R) (hL : Lev n.toNat (nb (tn es)) o lab) : PlaneIs n v vr (planeR n.toNat (tn es) lab R) w := fun w' S' hm =>
  rotPlane_ok n v es vr hr0 R o lab w' hs (hr.fwd hm (fun _ h => h.elim)) hG ⟨hR.shp, hR.len, hR.ro.fwd hm (fun _ h => h.elim), fun i x l h1 h2 => ⟨(hR.kid i x l h1 h2).1, (hR.kid i x l h1 h2).2.fwd hm (fun _ h => h.elim)⟩⟩ hRot hL
theorem dual3 : dualL (facesR (3 : Int).toNat (tn es3) R3) es3 = [(0, 1, 0), (1, 0, 0), (0, 1, 0)] := by
  rw [faces3]; decide
set_option maxRecDepth 100000
set_option maxHeartbeats 8000000
set_option linter.unusedVariables false
set_option linter.unusedSimpArgs false
attribute [local irreducible] Code.wp wpList bodyPost wpQuiet Exit.then Exit.inBlock Post wpAnyH wpOp
theorem alive10_ok (w : World) : Calls Tryz.prog 6 #[] w (Post w No (Just (.bool true))) := by
  obtain ⟨o, lab, hL⟩ := lev_ex w right3
  refine enter0 (vs := []) Tryz.func6 rfl Tryz.ntmps6 rfl ?_
  repeat' first
    | refine k_then ?_ | refine c_seq ?_ | refine c_region ?_ | refine s_nil ?_ | refine s_assign (by exact rfl) (by exact rfl) ?_ | fail
  refine o_build [(0, .int .i64 0, [.int .i64 0]), (1, .int .i64 1, [.int .i64 1])] (by exact rfl) (by exact rfl) (by simp [Value.cells]) (by exact rfl) ?_
  refine o_build [(0, .int .i64 0, [.int .i64 0]), (1, .int .i64 2, [.int .i64 2])] (by exact rfl) (by exact rfl) (by simp [Value.cells]) (by exact rfl) ?_
  refine o_build [(0, .int .i64 1, [.int .i64 1]), (1, .int .i64 2, [.int .i64 2])] (by exact rfl) (by exact rfl) (by simp [Value.cells]) (by exact rfl) ?_
  refine o_mk [.agg (eV (0, 1, 0)).toArray, .agg (eV (0, 2, 0)).toArray, .agg (eV (1, 2, 0)).toArray] (by exact rfl) (by exact rfl) rfl ?_ ?_ (by simp) fun v hv => ?_
  · simp [Value.cells, eV]
  · simp
  rw [show ([Value.agg (eV (0, 1, 0)).toArray, .agg (eV (0, 2, 0)).toArray, .agg (eV (1, 2, 0)).toArray].flatMap fun u => u.cells.toList) = esV es3 from rfl]
  refine o_build [(0, .int .i64 3, [.int .i64 3]), (1, v, [v])] (by exact rfl) (by exact rfl) (by
    intro q hq
    simp only [List.mem_cons, List.not_mem_nil, or_false] at hq
    rcases hq with rfl | rfl
    · rfl
    · exact one_cells hv.one) (by exact rfl) ?_
  repeat' first
    | refine o_alloc (by exact rfl) (fun b => ?_) | fail
  refine o_stk_box (i := 0) (us := [.int .i64 3, v]) (by exact rfl) (by exact rfl) (by exact rfl) (by exact rfl) (by exact rfl) (by
    intro u hu
    simp only [List.mem_cons, List.not_mem_nil, or_false] at hu
    rcases hu with rfl | rfl
    · rfl
    · exact hv.one) (by simp [Value.cells]) ?_
  repeat' first
    | refine k_then ?_ | refine c_seq ?_ | refine c_region ?_ | refine s_nil ?_ | refine s_ldk_box (by exact rfl) (by exact rfl) (by exact .head _) (by exact rfl) (by exact rfl) ?_ | fail
  refine o_mk [.int .i64 1, .int .i64 2] (by exact rfl) (by exact rfl) rfl ?_ ?_ (by simp) fun v0 hv0 => ?_
  · simp [Value.cells]
  · simp
  refine o_mk [.int .i64 2, .int .i64 0] (by exact rfl) (by exact rfl) rfl ?_ ?_ (by simp) fun v1 hv1 => ?_
  · simp [Value.cells]
  · simp
  refine o_mk [.int .i64 0, .int .i64 1] (by exact rfl) (by exact rfl) rfl ?_ ?_ (by simp) fun v2 hv2 => ?_
  · simp [Value.cells]
  · simp
  refine o_mk [v0, v1, v2] (by exact rfl) (by exact rfl) rfl ?_ ?_ (by simp) fun vr hvr => ?_
  · intro u hu
    simp only [List.mem_cons, List.not_mem_nil, or_false] at hu
    rcases hu with rfl | rfl | rfl
    · rw [← Array.length_toList, one_cells hv0.one]; rfl
    · rw [← Array.length_toList, one_cells hv1.one]; rfl
    · rw [← Array.length_toList, one_cells hv2.one]; rfl
  · simp
  rw [show ([v0, v1, v2].flatMap fun u => u.cells.toList) = [v0, v1, v2] from by simp [one_cells hv0.one, one_cells hv1.one, one_cells hv2.one]]
  skip
  refine c_star0 ?_
  refine c_pick [4, 0, 0, 0, 0, 0, 0] (by exact rfl) ?_
  refine c_pushk 0 (by exact rfl) ?_
  refine c_pick [3, 0, 0, 0, 0, 0] (by exact rfl) ?_
  refine c_pushk 0 (by exact rfl) ?_
  refine c_pick [2, 0, 0, 0, 0] (by exact rfl) ?_
  refine c_pushk 0 (by exact rfl) ?_
  have hros : ∀ {L : List HP} {w1 : World}, rowHP vr 41 1 3 [v0, v1, v2] ∈ L → starHP (kids rowN [v0, v1, v2] R3) ∈ L → St w No L w1 → ROs w1 No vr [v0, v1, v2] R3 := fun h1 h2 h => ros_own h h1 rfl h2
  have hpl : planeR (3 : Int).toNat (tn es3) lab R3 = 0 := by rw [planeR, euler3 hL]; decide
  refine o_call (by exact rfl) (by exact rfl) (fun w h => Dual_ok 3 v es3 vr [v0, v1, v2] R3 w hv (ro_own h (by exact .tail _ (.tail _ (.tail _ (.head _))))) right3 (hros (by exact .tail _ (.head _)) (by exact .head _) h) rot3 (hpl ▸ planeIs_ok hv (ro_own h (by exact .tail _ (.tail _ (.tail _ (.head _))))) right3 (hros (by exact .tail _ (.head _)) (by exact .head _) h) rot3 hL)) ?_
  rintro _ _ ⟨ve, rfl, rfl⟩
  rw [dual3, faces3]
  refine know_row (v := ve) (.head _) fun hve _ => ?_
  have hve3 : Shp ve 3 := hve
  have hE0 : (esV [(0, 1, 0), (1, 0, 0), (0, 1, 0)])[0 * 3 + 0]? = some (.int .i64 0) := rfl
  have hE1 : (esV [(0, 1, 0), (1, 0, 0), (0, 1, 0)])[0 * 3 + 1]? = some (.int .i64 1) := rfl
  repeat' first
    | refine s_move (by exact rfl) (by exact rfl) ?_ | refine s_extract (by exact rfl) (by exact rfl) (by exact rfl) ?_ | refine o_alloc (by exact rfl) (fun b => ?_) | fail
  refine o_stk_box (i := 0) (us := [.int .i64 2, ve]) (by exact rfl) (by exact rfl) (by exact rfl) (by exact rfl) (by exact rfl) (by
    intro u hu
    simp only [List.mem_cons, List.not_mem_nil, or_false] at hu
    rcases hu with rfl | rfl
    · rfl
    · exact hve.one) (by simp [Value.cells]) ?_
  have hpos3 : 0 < 3 := by omega
  repeat' first
    | refine k_then ?_ | refine c_seq ?_ | refine s_nil ?_ | refine s_assign (by exact rfl) (by exact rfl) ?_ | fail
  refine p_begin0 (.mk 0 true :: .mk 1 true :: .mk 2 true :: .mk 3 true :: .mk 4 true :: .mk 5 true :: .mk 6 true :: .mk 7 true :: .mk 8 true :: .mk 9 true :: .mk 10 true :: .mk 11 true :: .mk 12 true :: .mk 13 true :: .mk 14 true :: .mk 15 true :: .mk 16 true :: .mk 17 true :: .mk 18 true :: .mk 19 true :: .mk 20 true :: .mk 21 true :: .mk 22 true :: .mk 23 true :: .mk 24 true :: .mk 25 true :: .mk 26 true :: []) (by kernel_rfl) ?_
  repeat' first
    | refine p_nil ?_
    | (refine p_at (by exact rfl) ?_
       first
        | refine t_move (by exact rfl) (by exact rfl) (by exact fun _ h => h) ?_ | refine t_assign (by exact rfl) (by exact rfl) (by exact fun _ h => h) ?_ | refine t_eql (by exact rfl) (by exact rfl) (by exact rfl) (by exact fun _ h => h) ?_ | refine t_pick_t (by exact rfl) (by exact rfl) (by exact rfl) (by exact fun _ h => h) ?_ | refine tw_fa (by exact rfl) (by exact rfl) (by exact rfl) (by exact rfl) (by exact fun _ h => h) ?_ | refine tw_ld_box (by exact rfl) (by exact rfl) (by exact rfl) (by exact rfl) (by exact .head _) (by exact rfl) (by exact fun _ h => h) ?_ | refine tw_eql (by exact rfl) (by exact rfl) (by exact rfl) (by exact rfl) (by exact rfl) (by exact fun _ h => h) ?_ | refine tw_neq (by exact rfl) (by exact rfl) (by exact rfl) (by exact rfl) (by exact rfl) (by exact fun _ h => h) ?_ | refine tw_len (by exact rfl) (by exact rfl) (by exact rfl) (by exact rfl) (by assumption) (by exact fun _ h => h) ?_ | refine tw_idx (by exact rfl) (by exact rfl) (by exact rfl) (by exact rfl) (by exact rfl) (by assumption) (by first | assumption | omega) (by exact fun _ h => h) ?_ | refine tw_fap (by exact rfl) (by exact rfl) (by exact rfl) (by exact rfl) (by assumption) (by omega) (by exact fun _ h => h) ?_ | refine tw_ld_row (by exact rfl) (by exact rfl) (by exact rfl) (by exact rfl) (by exact .tail _ (.head _)) (by assumption) (by exact fun _ h => h) ?_ | fail)
    | fail
  repeat' first
    | refine k_then ?_ | refine c_ret ?_ | fail
  refine ret1 [] rfl rfl (by exact rfl) ⟨rfl, rfl⟩
end Go.Proofs.YtpajjnkmaebhcaaGreat
end
section
set_option linter.unusedVariables false
namespace Fil
open Go.Sl
theorem nextK_nxt {R : List (List Nat)} {d : Nat × Nat} (h1 : d.2 < R.length) (h2 : d.1 ∈ rf R d.2) : nextK (intL R) (d.1 : Int) (d.2 : Int) = (((nxt (rf R) d).1 : Int), ((nxt (rf R) d).2 : Int), true) := by
  have hl : (intL R).length = R.length := by simp [intL]
  have hg : (intL R).getD d.2 [] = (rf R d.2).map fun (k : Nat) => (k : Int) := by
    rw [List.getD_eq_getElem?_getD, intL, List.getElem?_map, rf, List.getD_eq_getElem?_getD, List.getElem?_eq_getElem h1]; rfl
  rw [nextK, if_neg (by rw [hl]; omega), show (d.2 : Int).toNat = d.2 by omega, hg]
  have hi : (rf R d.2).idxOf d.1 < (rf R d.2).length := List.idxOf_lt_length_of_mem h2
  have hf : ((rf R d.2).map fun (k : Nat) => (k : Int)).findIdx? (fun y => decide (y = (d.1 : Int))) = some ((rf R d.2).idxOf d.1) := by
    rw [List.findIdx?_eq_some_iff_getElem]
    refine ⟨by simpa using hi, ?_, fun j hj => ?_⟩
    · rw [List.getElem_map, List.getElem_idxOf]; simp
    · rw [List.getElem_map]
      have h3 : (rf R d.2)[j]'(by omega) ≠ d.1 := by
        have := List.not_of_lt_findIdx hj
        simpa [List.idxOf] using this
      simp only [decide_eq_true_eq]
      omega
  rw [hf]
  have hm : ((rf R d.2).idxOf d.1 + 1) % (rf R d.2).length < (rf R d.2).length := Nat.mod_lt _ (by omega)
  simp only [List.length_map]
  rw [List.getD_eq_getElem?_getD, List.getElem?_map, List.getElem?_eq_getElem hm, nxt, cyc, List.getD_eq_getElem?_getD, List.getElem?_eq_getElem hm]
  rfl
theorem rf_mirror (R : List (List Nat)) (v : Nat) : rf (R.map List.reverse) v = (rf R v).reverse := by
  rw [rf, rf, List.getD_eq_getElem?_getD, List.getD_eq_getElem?_getD, List.getElem?_map]
  cases R[v]? <;> rfl
theorem RotL.rev {N : Nat} {l : List (Nat × Nat)} {R : List (List Nat)} (h : RotL N l R) : RotL N l (R.map List.reverse) :=
  ⟨by simpa using h.len, fun v hv => by rw [rf_mirror]; exact (List.reverse_perm _).trans (h.perm v hv)⟩
theorem edge_of {n : Int} {es : List E} {R : List (List Nat)} {o lab : Nat → Nat} (hR : RightG n es) (h : RotL n.toNat (tn es) R) (hL : Lev n.toNat (nb (tn es)) o lab) {c : List Nat} (hc : c ∈ compsS n.toNat lab) (h1 : c.length ≠ 1) : (tn es).filter (fun e => decide (e.1 ∈ c)) ≠ [] := by
  obtain ⟨c', hp, hg⟩ := comp_grow hR h hL hc
  have hl : c.length ≠ 0 := fun e => comp_ne hc (List.eq_nil_of_length_eq_zero e)
  have hne := grow_ne (h.sys hR) hg (by have := hp.length_eq; omega)
  obtain ⟨v, hv⟩ := List.exists_mem_of_ne_nil _ (comp_ne hc)
  obtain ⟨u, hu⟩ := List.exists_mem_of_ne_nil _ (hne v (hp.mem_iff.2 hv))
  have huc := comp_shut hR h hL hc v hv u hu
  rcases ((h.sys hR).ed u v).1 hu with he | he
  · exact List.ne_nil_of_mem (List.mem_filter.2 ⟨he, decide_eq_true hv⟩)
  · exact List.ne_nil_of_mem (List.mem_filter.2 ⟨he, decide_eq_true huc⟩)
end Fil
end
section
namespace Fil
/-- is an edge between u and v? -/
def between (u v : Int) (e : E) : Bool := decide (e.1 = u ∧ e.2.1 = v ∨ e.1 = v ∧ e.2.1 = u)
def findK (es : List E) (u v : Int) : Int := match es.findIdx? (between u v) with | some i => (i : Int) | none => -1
theorem findK_ge {es : List E} {u v : Int} : 0 ≤ findK es u v ↔ ∃ e ∈ es, between u v e = true := by
  unfold findK
  cases h : es.findIdx? (between u v) with
  | none =>
    rw [List.findIdx?_eq_none_iff] at h
    simp only [show ¬ (0 : Int) ≤ -1 by omega, false_iff]
    rintro ⟨e, he, h2⟩
    rw [h e he] at h2
    simp at h2
  | some i =>
    obtain ⟨hi, h2, _⟩ := List.findIdx?_eq_some_iff_getElem.1 h
    simp only [show (0 : Int) ≤ (i : Int) by omega, true_iff]
    exact ⟨_, List.getElem_mem hi, h2⟩
def isNext (es : List E) (u v : Nat) : Bool := decide (0 ≤ findK es (u : Int) (v : Int))
theorem isNext_iff {n : Int} {es : List E} (hR : RightG n es) {u v : Nat} : isNext es u v = true ↔ v ∈ nb (tn es) u := by
  rw [isNext, decide_eq_true_iff, findK_ge, mem_nb (fun e he => by have := hR.good.lt e he; omega)]
  simp only [between, decide_eq_true_iff, tn, List.mem_map, Prod.mk.injEq]
  constructor
  · rintro ⟨e, he, h | h⟩
    · exact .inl ⟨e, he, by omega, by omega⟩
    · exact .inr ⟨e, he, by omega, by omega⟩
  · rintro (⟨e, he, h1, h2⟩ | ⟨e, he, h1, h2⟩)
    · obtain ⟨q1, q2, _⟩ := hR.ok e he
      exact ⟨e, he, .inl ⟨by omega, by omega⟩⟩
    · obtain ⟨q1, q2, _⟩ := hR.ok e he
      exact ⟨e, he, .inr ⟨by omega, by omega⟩⟩
theorem nb_nodup {n : Int} {es : List E} (hR : RightG n es) (u : Nat) : (nb (tn es) u).Nodup := by
  rw [nb, List.Nodup, List.pairwise_filterMap, tn, List.pairwise_map]
  refine List.Pairwise.imp_of_mem ?_ hR.sorted
  intro a b ha hb hab x hx y hy
  obtain ⟨a1, a2, _⟩ := hR.ok a ha
  obtain ⟨b1, b2, _⟩ := hR.ok b hb
  dsimp only [ltE] at hab
  dsimp only at hx hy
  split at hx <;> split at hy
  · simp only [Option.some.injEq] at hx hy; omega
  · split at hy
    · simp only [Option.some.injEq] at hx hy; omega
    · simp at hy
  · split at hx
    · simp only [Option.some.injEq] at hx hy; omega
    · simp at hx
  · split at hx
    · split at hy
      · simp only [Option.some.injEq] at hx hy; omega
      · simp at hy
    · simp at hx
theorem near_eq {n : Int} {es : List E} (hR : RightG n es) {u : Nat} (hu : u < n.toNat) : (List.range n.toNat).filter (isNext es u) = nearS (tn es) u := by
  have hn := nb_nodup hR u
  refine List.Perm.eq_of_pairwise (le := fun a b => a ≤ b) (fun a b _ _ h1 h2 => Nat.le_antisymm h1 h2) ?_ ?_ ?_
  · exact (List.pairwise_lt_range.imp fun h => Nat.le_of_lt h).filter _
  · have := List.pairwise_mergeSort (le := fun (x y : Nat) => decide (x ≤ y)) (fun a b c h1 h2 => by simp at *; omega) (fun a b => by simp; omega) (nb (tn es) u)
    exact this.imp fun h => by simpa using h
  · refine ((List.perm_ext_iff_of_nodup (List.nodup_range.filter _) hn).2 fun v => ?_).trans (List.mergeSort_perm _ _).symm
    rw [List.mem_filter, List.mem_range, isNext_iff hR]
    exact ⟨fun h => h.2, fun h => ⟨hR.good.adj.lt u hu v h, h⟩⟩
end Fil
namespace Go.Proofs.YtpajjnkmaebhcaaGreat
open Go.RowKit Go.Sl Fil
set_option maxRecDepth 100000
set_option maxHeartbeats 8000000
set_option linter.unusedVariables false
set_option linter.unusedSimpArgs false
attribute [local irreducible] Code.wp wpList bodyPost wpQuiet Exit.then Exit.inBlock Post wpAnyH wpOp
theorem Has_ok (v : Value) (l : List Int) (i : Int) (w : World) (hs : Shp v l.length) (hr : RO w No v (iV l)) :
    Calls Tryz.prog 41 #[v, .int .i64 i] w (Post w No (Just (.bool (decide (i ∈ l))))) := by
  have hm := hs.1
  simp only [maxLen] at hm
  refine enter0 (vs := [_, _]) Tryz.func41 rfl Tryz.ntmps41 rfl ?_
  repeat' first
    | refine k_then ?_ | refine c_seq ?_ | refine c_region ?_ | refine s_nil ?_ | refine s_assign (by exact rfl) (by exact rfl) ?_ | refine c_block ?_
  refine c_loop (fun k : Nat => k ≤ l.length ∧ i ∉ l.take k) (fun k => [(0, v), (1, .int .i64 i), (5, .int .i64 (k : Int))]) (fun _ => []) (fun k => l.length - k) 0 [] ⟨by omega, by simp⟩ rfl ⟨rfl, rfl, rfl, trivial⟩ ?_
  rintro k ⟨hk, hq⟩
  by_cases hlt : k < l.length
  · obtain ⟨c, hc⟩ : ∃ c, l[k]? = some c := ⟨_, List.getElem?_eq_getElem hlt⟩
    have h1 : (iV l)[k * 1]? = some (.int .i64 c) := by simp [iV, hc]
    repeat' first
      | refine k_then ?_ | refine c_seq ?_ | refine c_region ?_ | refine s_nil ?_ | refine s_move (by exact rfl) (by exact rfl) ?_ | refine s_assign (by exact rfl) (by exact rfl) ?_ | refine s_lss (by exact rfl) (by exact rfl) (by exact rfl) ?_ | refine s_eql (by exact rfl) (by exact rfl) (by exact rfl) ?_ | refine s_add (by exact rfl) (by exact rfl) (by exact rfl) (by omega) ?_ | refine s_len (by exact rfl) (by exact rfl) (by assumption) ?_ | refine s_idx (by exact rfl) (by exact rfl) (by exact rfl) (by assumption) (by first | assumption | omega) ?_ | refine s_ld_ro (by exact rfl) (by exact rfl) (by assumption) (by assumption) ?_ | refine c_block ?_ | refine c_skip ?_ | refine c_ret ?_ | refine k_then_ret ?_ | refine k_blk ?_ | refine k_blk_ret ?_ | (refine c_cond_p (by exact rfl) (fun h => ?_) (fun h => ?_) <;> try (exfalso; omega))
    · refine ret1 [] rfl rfl rfl ⟨congrArg Value.bool (decide_eq_true ?_).symm, rfl⟩
      have : c = i := by omega
      rw [← this]
      exact List.mem_of_getElem? hc
    · refine c_round (k + 1) [] (by exact rfl) (by exact ⟨rfl, rfl, rfl, trivial⟩) ⟨by omega, ?_⟩ (by omega)
      rw [List.take_add_one, hc]
      simp only [Option.toList_some, List.mem_append, List.mem_singleton]
      rintro (h | h)
      · exact hq h
      · omega
  · repeat' first
      | refine k_then ?_ | refine c_seq ?_ | refine c_region ?_ | refine s_nil ?_ | refine s_move (by exact rfl) (by exact rfl) ?_ | refine s_assign (by exact rfl) (by exact rfl) ?_ | refine s_lss (by exact rfl) (by exact rfl) (by exact rfl) ?_ | refine s_len (by exact rfl) (by exact rfl) (by assumption) ?_ | refine c_exit ?_ | refine c_ret ?_ | refine k_then_exit ?_ | refine k_blk_eq ?_ | (refine c_cond_p (by exact rfl) (fun h => ?_) (fun h => ?_) <;> try (exfalso; omega))
    rw [List.take_of_length_le (by omega)] at hq
    refine ret1 [] rfl rfl rfl ⟨congrArg Value.bool (decide_eq_false hq).symm, rfl⟩
theorem HasN_ok (v : Value) (l : List Nat) (i : Nat) (w : World) (hs : Shp v l.length) (hr : RO w No v (nV l)) :
    Calls Tryz.prog 41 #[v, .int .i64 (i : Int)] w (Post w No (Just (.bool (decide (i ∈ l))))) := by
  have h := Has_ok v (l.map fun z : Nat => (z : Int)) i w (by simpa using hs) (by rw [← nV_iV]; exact hr)
  have e : ((i : Int) ∈ l.map fun z : Nat => (z : Int)) ↔ i ∈ l := by
    simp only [List.mem_map]
    exact ⟨fun ⟨a, h1, h2⟩ => by rwa [show i = a by omega], fun h => ⟨i, h, rfl⟩⟩
  rwa [decide_eq_decide.2 e] at h
theorem Find_ok (n : Int) (v : Value) (es : List E) (x y : Int) (w : World) (hs : Shp v es.length) (hr : RO w No v (esV es)) :
    Calls Tryz.prog 13 #[.agg #[.int .i64 n, v], .int .i64 x, .int .i64 y] w (Post w No (Just (.int .i64 (findK es x y)))) := by
  have hm := hs.1
  simp only [maxLen] at hm
  refine enter0 (vs := [_, _, _]) Tryz.func13 rfl Tryz.ntmps13 rfl ?_
  repeat' first
    | refine k_then ?_ | refine c_seq ?_ | refine c_region ?_ | refine s_nil ?_ | refine s_assign (by exact rfl) (by exact rfl) ?_ | refine o_box (by exact rfl) (by exact rfl) (fun b => ?_) | refine c_block ?_
  refine c_loop (fun k : Nat => k ≤ es.length ∧ ∀ e ∈ es.take k, between x y e = false) (fun k => [(1, .int .i64 x), (2, .int .i64 y), (3, .pointer (some ⟨b, 0, none⟩)), (7, .int .i64 (k : Int))]) (fun _ => [boxHP b 24 [.int .i64 n, v]]) (fun k => es.length - k) 0 [0] ⟨by omega, by simp⟩ rfl ⟨rfl, rfl, rfl, rfl, trivial⟩ ?_
  rintro k ⟨hk, hq⟩
  by_cases hlt : k < es.length
  · obtain ⟨e, he⟩ : ∃ e, es[k]? = some e := ⟨_, List.getElem?_eq_getElem hlt⟩
    obtain ⟨hE0, hE1, hE2⟩ := esV_get he
    cases hbt : between x y e
    · have hn : ¬ (e.1 = x ∧ e.2.1 = y ∨ e.1 = y ∧ e.2.1 = x) := by simpa [between] using hbt
      repeat' first
        | refine k_then ?_ | refine c_seq ?_ | refine c_region ?_ | refine s_nil ?_ | refine s_move (by exact rfl) (by exact rfl) ?_ | refine s_assign (by exact rfl) (by exact rfl) ?_ | refine s_fa (by exact rfl) (by exact rfl) ?_ | refine s_ld_box (by exact rfl) (by exact rfl) (by exact .head _) (by exact rfl) ?_ | refine s_lss (by exact rfl) (by exact rfl) (by exact rfl) ?_ | refine s_eql (by exact rfl) (by exact rfl) (by exact rfl) ?_ | refine s_add (by exact rfl) (by exact rfl) (by exact rfl) (by omega) ?_ | refine s_len (by exact rfl) (by exact rfl) (by assumption) ?_ | refine s_idx (by exact rfl) (by exact rfl) (by exact rfl) (by assumption) (by first | assumption | omega) ?_ | refine s_fap (by exact rfl) (by exact rfl) (by assumption) (by omega) ?_ | refine s_pick_t (by exact rfl) (by exact rfl) (by exact rfl) ?_ | refine s_pick_f (by exact rfl) (by exact rfl) (by exact rfl) ?_ | refine s_ld_ro (by exact rfl) (by exact rfl) (by assumption) (by assumption) ?_ | refine c_block ?_ | refine c_skip ?_ | refine k_blk ?_ | (refine c_cond_p (by exact rfl) (fun h => ?_) (fun h => ?_) <;> try (exfalso; omega)) | refine c_cond_f (by exact rfl) ?_ | (refine g_case (by exact rfl) (by exact rfl) (fun h => ?_) (fun h => ?_) <;> try (exfalso; omega)) | refine g_skip (by exact rfl) (by exact rfl) (by exact rfl) (by exact rfl) ?_ | refine w_move (by exact rfl) (by exact rfl) (by exact rfl) (by exact rfl) ?_ | refine w_fa (by exact rfl) (by exact rfl) (by exact rfl) (by exact rfl) ?_ | refine w_ld_box (by exact rfl) (by exact rfl) (by exact rfl) (by exact rfl) (by exact .head _) (by exact rfl) ?_ | refine w_eql (by exact rfl) (by exact rfl) (by exact rfl) (by exact rfl) (by exact rfl) ?_ | refine w_idx (by exact rfl) (by exact rfl) (by exact rfl) (by exact rfl) (by exact rfl) (by assumption) (by first | assumption | omega) ?_ | refine w_fap (by exact rfl) (by exact rfl) (by exact rfl) (by exact rfl) (by assumption) (by omega) ?_ | refine w_pick_t (by exact rfl) (by exact rfl) (by exact rfl) (by exact rfl) (by exact rfl) ?_ | refine w_pick_f (by exact rfl) (by exact rfl) (by exact rfl) (by exact rfl) (by exact rfl) ?_ | refine w_ld_ro (by exact rfl) (by exact rfl) (by exact rfl) (by exact rfl) (by assumption) (by assumption) ?_
      all_goals
        refine c_round (k + 1) [0] (by exact rfl) (by exact ⟨rfl, rfl, rfl, rfl, trivial⟩) ⟨by omega, ?_⟩ (by omega)
        rw [List.take_add_one, he]
        intro a ha
        rcases List.mem_append.1 ha with ha | ha
        · exact hq a ha
        · obtain rfl : a = e := by simpa using ha
          exact hbt
    · have hp : e.1 = x ∧ e.2.1 = y ∨ e.1 = y ∧ e.2.1 = x := by simpa [between] using hbt
      have hfk : findK es x y = (k : Int) := by
        have : es.findIdx? (between x y) = some k := by
          rw [List.findIdx?_eq_some_iff_getElem]
          obtain ⟨h1, h2⟩ := List.getElem?_eq_some_iff.1 he
          refine ⟨h1, by rw [h2]; exact hbt, fun j hj => ?_⟩
          rw [hq _ (List.mem_take_iff_getElem.2 ⟨j, by omega, rfl⟩)]
          simp
        rw [findK, this]
      repeat' first
        | refine k_then ?_ | refine c_seq ?_ | refine c_region ?_ | refine s_nil ?_ | refine s_move (by exact rfl) (by exact rfl) ?_ | refine s_assign (by exact rfl) (by exact rfl) ?_ | refine s_fa (by exact rfl) (by exact rfl) ?_ | refine s_ld_box (by exact rfl) (by exact rfl) (by exact .head _) (by exact rfl) ?_ | refine s_lss (by exact rfl) (by exact rfl) (by exact rfl) ?_ | refine s_eql (by exact rfl) (by exact rfl) (by exact rfl) ?_ | refine s_len (by exact rfl) (by exact rfl) (by assumption) ?_ | refine s_idx (by exact rfl) (by exact rfl) (by exact rfl) (by assumption) (by first | assumption | omega) ?_ | refine s_fap (by exact rfl) (by exact rfl) (by assumption) (by omega) ?_ | refine s_pick_t (by exact rfl) (by exact rfl) (by exact rfl) ?_ | refine s_pick_f (by exact rfl) (by exact rfl) (by exact rfl) ?_ | refine s_ld_ro (by exact rfl) (by exact rfl) (by assumption) (by assumption) ?_ | refine c_block ?_ | refine c_skip ?_ | refine c_ret ?_ | refine k_then_ret ?_ | refine k_blk_ret ?_ | (refine c_cond_p (by exact rfl) (fun h => ?_) (fun h => ?_) <;> try (exfalso; omega)) | refine c_cond_t (by exact rfl) ?_ | (refine g_case (by exact rfl) (by exact rfl) (fun h => ?_) (fun h => ?_) <;> try (exfalso; omega)) | refine g_skip (by exact rfl) (by exact rfl) (by exact rfl) (by exact rfl) ?_ | refine w_move (by exact rfl) (by exact rfl) (by exact rfl) (by exact rfl) ?_ | refine w_fa (by exact rfl) (by exact rfl) (by exact rfl) (by exact rfl) ?_ | refine w_ld_box (by exact rfl) (by exact rfl) (by exact rfl) (by exact rfl) (by exact .head _) (by exact rfl) ?_ | refine w_eql (by exact rfl) (by exact rfl) (by exact rfl) (by exact rfl) (by exact rfl) ?_ | refine w_idx (by exact rfl) (by exact rfl) (by exact rfl) (by exact rfl) (by exact rfl) (by assumption) (by first | assumption | omega) ?_ | refine w_fap (by exact rfl) (by exact rfl) (by exact rfl) (by exact rfl) (by assumption) (by omega) ?_ | refine w_pick_t (by exact rfl) (by exact rfl) (by exact rfl) (by exact rfl) (by exact rfl) ?_ | refine w_ld_ro (by exact rfl) (by exact rfl) (by exact rfl) (by exact rfl) (by assumption) (by assumption) ?_
      all_goals refine ret1 [] rfl rfl rfl ⟨by rw [hfk], rfl⟩
  · repeat' first
      | refine k_then ?_ | refine c_seq ?_ | refine c_region ?_ | refine s_nil ?_ | refine s_move (by exact rfl) (by exact rfl) ?_ | refine s_assign (by exact rfl) (by exact rfl) ?_ | refine s_fa (by exact rfl) (by exact rfl) ?_ | refine s_ld_box (by exact rfl) (by exact rfl) (by exact .head _) (by exact rfl) ?_ | refine s_lss (by exact rfl) (by exact rfl) (by exact rfl) ?_ | refine s_len (by exact rfl) (by exact rfl) (by assumption) ?_ | refine c_exit ?_ | refine c_ret ?_ | refine k_then_exit ?_ | refine k_blk_eq ?_ | (refine c_cond_p (by exact rfl) (fun h => ?_) (fun h => ?_) <;> try (exfalso; omega))
    rw [List.take_of_length_le (by omega)] at hq
    refine ret1 [] rfl rfl rfl ⟨?_, rfl⟩
    have : es.findIdx? (between x y) = none := List.findIdx?_eq_none_iff.2 hq
    rw [findK, this]
theorem refNear_ok (n : Int) (v : Value) (es : List E) (w : World) (hs : Shp v es.length) (hr : RO w No v (esV es)) (hR : RightG n es) :
    Calls Tryz.prog 40 #[.agg #[.int .i64 n, v]] w (Post w No fun r L' => ∃ hs : List Value, hs.length = n.toNat ∧ L' = [rowHP r 41 1 n.toNat hs, starHP (kids rowN hs ((List.range n.toNat).map (nearS (tn es))))]) := by
  have hlo := hR.lo
  have hhi := hR.hi
  have hm : es.length < 4611686018427387904 := by have := hR.many; omega
  refine enter0 (vs := [_]) Tryz.func40 rfl Tryz.ntmps40 rfl ?_
  repeat' first
    | refine k_then ?_ | refine c_seq ?_ | refine c_region ?_ | refine s_nil ?_ | refine s_assign (by exact rfl) (by exact rfl) ?_ | refine s_fa (by exact rfl) (by exact rfl) ?_ | refine s_ld_box (by exact rfl) (by exact rfl) (by exact .head _) (by exact rfl) ?_ | refine o_box (by exact rfl) (by exact rfl) (fun b => ?_)
  refine o_make (by exact rfl) (by exact rfl) (by exact rfl) (by omega) (by omega) fun vo hvo => ?_
  rw [made1 rfl]
  have hnear := fun u (hu : u < n.toNat) => near_eq hR hu
  repeat' first
    | refine k_then ?_ | refine c_seq ?_ | refine c_region ?_ | refine s_nil ?_ | refine s_assign (by exact rfl) (by exact rfl) ?_ | refine c_block ?_
  generalize hN : n.toNat = N at *
  have hnN : n = (N : Int) := by omega
  subst hnN
  let part : Nat → Nat → Nat → List Nat := fun u m w => if w < u then (List.range N).filter (isNext es w) else if w = u then (List.range m).filter (isNext es w) else []
  refine c_nils 3 1 N ?_
  refine c_loop (fun x : Nat × List Value => x.1 ≤ N ∧ x.2.length = N) (fun x => [(1, .pointer (some ⟨b, 0, none⟩)), (3, vo), (4, .int .i64 (x.1 : Int))]) (fun x => [rowHP vo 41 1 N x.2, starHP (kids rowN x.2 ((List.range N).map (part x.1 0))), boxHP b 24 [.int .i64 (N : Int), v]]) (fun x => N - x.1) (0, List.replicate N (.slice none 0 0)) [1, 0, 0] ⟨by omega, by simp⟩ ?_ ⟨rfl, rfl, rfl, trivial⟩ ?_
  · rw [show (List.range N).map (part 0 0) = List.replicate N [] from by
      rw [List.eq_replicate_iff]
      refine ⟨by simp, fun x hx => ?_⟩
      obtain ⟨w, _, rfl⟩ := List.mem_map.1 hx
      simp only [part]
      split
      · omega
      · split <;> simp]
    rw [kids_nils]
    rfl
  rintro ⟨u, hs0⟩ ⟨hu, hl0⟩
  dsimp only at hu hl0 ⊢
  by_cases hul : u < N
  · repeat' first
      | refine k_then ?_ | refine c_seq ?_ | refine c_region ?_ | refine s_nil ?_ | refine s_move (by exact rfl) (by exact rfl) ?_ | refine s_assign (by exact rfl) (by exact rfl) ?_ | refine s_fa (by exact rfl) (by exact rfl) ?_ | refine s_ld_box (by exact rfl) (by exact rfl) (by exact .tail _ (.tail _ (.head _))) (by exact rfl) ?_ | refine s_lss (by exact rfl) (by exact rfl) (by exact rfl) ?_ | refine c_block ?_ | refine c_skip ?_ | (refine c_cond_p (by exact rfl) (fun h => ?_) (fun h => ?_) <;> try (exfalso; omega))
    refine c_loop (fun x : Nat × List Value => x.1 ≤ N ∧ x.2.length = N) (fun x => [(1, .pointer (some ⟨b, 0, none⟩)), (3, vo), (4, .int .i64 (u : Int)), (5, .int .i64 (x.1 : Int))]) (fun x => [rowHP vo 41 1 N x.2, starHP (kids rowN x.2 ((List.range N).map (part u x.1))), boxHP b 24 [.int .i64 (N : Int), v]]) (fun x => N - x.1) (0, hs0) [0, 0, 0] ⟨by omega, hl0⟩ (by exact rfl) ⟨rfl, rfl, rfl, rfl, trivial⟩ ?_
    clear hl0
    clear hs0
    rintro ⟨m, hs0⟩ ⟨hmN, hl0⟩
    dsimp only at hmN hl0 ⊢
    by_cases hml : m < N
    · repeat' first
        | refine k_then ?_ | refine c_seq ?_ | refine c_region ?_ | refine s_nil ?_ | refine s_move (by exact rfl) (by exact rfl) ?_ | refine s_fa (by exact rfl) (by exact rfl) ?_ | refine s_ld_box (by exact rfl) (by exact rfl) (by exact .tail _ (.tail _ (.head _))) (by exact rfl) ?_ | refine s_lss (by exact rfl) (by exact rfl) (by exact rfl) ?_ | refine s_ldk_box (by exact rfl) (by exact rfl) (by exact .tail _ (.tail _ (.head _))) (by exact rfl) (by exact rfl) ?_ | refine c_block ?_ | refine c_skip ?_ | (refine c_cond_p (by exact rfl) (fun h => ?_) (fun h => ?_) <;> try (exfalso; omega))
      refine s_call (by exact rfl) (by exact rfl) (fun w h => Find_ok N v es u m w hs (ro_old h hr)) ?_
      have hrow : (List.range (m + 1)).filter (isNext es u) = (List.range m).filter (isNext es u) ++ (if isNext es u m then [m] else []) := by
        rw [List.range_succ, List.filter_append]
        simp [List.filter_cons]
      have hpart : (List.range N).map (part u (m + 1)) = ((List.range N).map (part u m)).set u ((List.range (m + 1)).filter (isNext es u)) := by
        apply List.ext_getElem?
        intro k
        simp only [List.getElem?_set, List.getElem?_map, List.length_map, List.length_range]
        by_cases hk : k < N
        · rw [List.getElem?_range hk]
          by_cases hku : u = k
          · subst hku
            simp [part, hk]
          · simp only [hku, if_false, Option.map_some, part]
            have : ¬ k = u := fun e => hku e.symm
            simp [this]
        · rw [List.getElem?_eq_none (by simpa using hk)]
          have : ¬ u = k := by omega
          simp [this]
      have hpu : ((List.range N).map (part u m))[u]? = some ((List.range m).filter (isNext es u)) := by simp [part, hul]
      have hcnt : ((List.range m).filter (isNext es u)).length ≤ m := by
        have := List.length_filter_le (isNext es u) (List.range m)
        simpa using this
      cases hnx : isNext es u m
      · have hneg : ¬ (0 ≤ findK es (u : Int) (m : Int)) := by simpa [isNext] using hnx
        rw [hnx, if_neg (by simp), List.append_nil] at hrow
        repeat' first
          | refine k_then ?_ | refine c_region ?_ | refine s_nil ?_ | refine s_move (by exact rfl) (by exact rfl) ?_ | refine s_assign (by exact rfl) (by exact rfl) ?_ | refine s_geq (by exact rfl) (by exact rfl) (by exact rfl) ?_ | refine s_add (by exact rfl) (by exact rfl) (by exact rfl) (by omega) ?_ | refine c_skip ?_ | refine k_blk ?_ | (refine c_cond_p (by exact rfl) (fun h => ?_) (fun h => ?_) <;> try (exfalso; omega))
        refine c_round (m + 1, hs0) [0, 0, 0] ?_ (by exact ⟨rfl, rfl, rfl, rfl, trivial⟩) ⟨by dsimp only; omega, hl0⟩ (by dsimp only; omega)
        dsimp only
        rw [hpart, hrow, show ((List.range N).map (part u m)).set u ((List.range m).filter (isNext es u)) = (List.range N).map (part u m) from by
          apply List.ext_getElem?
          intro k
          rw [List.getElem?_set]
          split
          · rename_i e; subst e; rw [hpu]; simp [hul]
          · rfl]
        rfl
      · have hpos : 0 ≤ findK es (u : Int) (m : Int) := by simpa [isNext] using hnx
        rw [hnx, if_pos rfl] at hrow
        obtain ⟨hd, hhd⟩ : ∃ hd, hs0[u]? = some hd := ⟨_, List.getElem?_eq_getElem (by omega)⟩
        have hhd1 : hs0[u * 1]? = some hd := by simpa using hhd
        repeat' first
          | refine k_then ?_ | refine c_region ?_ | refine s_nil ?_ | refine s_move (by exact rfl) (by exact rfl) ?_ | refine s_geq (by exact rfl) (by exact rfl) (by exact rfl) ?_ | refine s_idx (by exact rfl) (by exact rfl) (by exact rfl) (by assumption) (by first | assumption | omega) ?_ | refine s_ld_row (by exact rfl) (by exact rfl) (by exact .head _) (by assumption) ?_ | (refine c_cond_p (by exact rfl) (fun h => ?_) (fun h => ?_) <;> try (exfalso; omega))
        refine o_mk [.int .i64 (m : Int)] (by exact rfl) (by exact rfl) rfl ?_ ?_ (by simp) fun vt hvt => ?_
        · simp [Value.cells]
        · simp
        skip
        refine c_take 2 u (by exact rfl) (kids_get hhd hpu) ?_
        refine c_pick [0, 1, 0, 0, 0] (by exact rfl) ?_
        refine o_append_row (i := 0) (by exact rfl) (by exact rfl) (by exact rfl) (by exact rfl) (by exact .tail _ (.tail _ (.head _))) (by exact rfl) (by simp [Value.cells, Value.oneCell']) ?_ fun vk hvk => ?_
        · omega
        repeat' first
          | refine s_idx (by exact rfl) (by exact rfl) (by exact rfl) (by assumption) (by first | assumption | omega) ?_
        refine o_st_row (i := 1) (by exact rfl) (by exact rfl) (by exact rfl) hvk.one (by omega) ?_
        repeat' first
          | refine k_then ?_ | refine c_region ?_ | refine s_nil ?_ | refine s_move (by exact rfl) (by exact rfl) ?_ | refine s_assign (by exact rfl) (by exact rfl) ?_ | refine s_add (by exact rfl) (by exact rfl) (by exact rfl) (by omega) ?_ | refine k_blk ?_
        refine c_pick [0, 0, 1, 1] (by exact rfl) ?_
        have e1 : rowHP vk 3 1 (((List.range m).filter (isNext es u)).length + 1) (nV ((List.range m).filter (isNext es u)) ++ [Value.int .i64 (m : Int)]) = rowN vk ((List.range (m + 1)).filter (isNext es u)) := by
          rw [hrow]
          exact rowN_snoc _ _ _
        refine c_give 1 u (by exact rfl) (by simp [kids, hl0, hul]) ?_
        refine c_round (m + 1, hs0.set u vk) [0, 0, 0] ?_ (by exact ⟨rfl, rfl, rfl, rfl, trivial⟩) ⟨by dsimp only; omega, by simpa using hl0⟩ (by dsimp only; omega)
        dsimp only
        rw [hpart, ← kids_set (x := empHP), ← e1, Nat.mul_one]
        rfl
    · repeat' first
        | refine k_then ?_ | refine c_seq ?_ | refine c_region ?_ | refine s_nil ?_ | refine s_move (by exact rfl) (by exact rfl) ?_ | refine s_assign (by exact rfl) (by exact rfl) ?_ | refine s_fa (by exact rfl) (by exact rfl) ?_ | refine s_ld_box (by exact rfl) (by exact rfl) (by exact .tail _ (.tail _ (.head _))) (by exact rfl) ?_ | refine s_lss (by exact rfl) (by exact rfl) (by exact rfl) ?_ | refine s_add (by exact rfl) (by exact rfl) (by exact rfl) (by omega) ?_ | refine c_exit ?_ | refine k_then_exit ?_ | refine k_blk ?_ | refine k_blk_eq ?_ | (refine c_cond_p (by exact rfl) (fun h => ?_) (fun h => ?_) <;> try (exfalso; omega))
      obtain rfl : m = N := by omega
      refine c_round (u + 1, hs0) [0, 0, 0] ?_ (by exact ⟨rfl, rfl, rfl, trivial⟩) ⟨by dsimp only; omega, hl0⟩ (by dsimp only; omega)
      dsimp only
      rw [show (List.range m).map (part (u + 1) 0) = (List.range m).map (part u m) from by
        apply List.map_congr_left
        intro w _
        simp only [part]
        by_cases h1 : w < u
        · rw [if_pos h1, if_pos (by omega)]
        · rw [if_neg h1]
          by_cases h2 : w = u
          · rw [if_pos h2, if_pos (by omega)]
          · rw [if_neg h2, if_neg (by omega)]
            split <;> simp]
      rfl
  · repeat' first
      | refine k_then ?_ | refine c_seq ?_ | refine c_region ?_ | refine s_nil ?_ | refine s_move (by exact rfl) (by exact rfl) ?_ | refine s_assign (by exact rfl) (by exact rfl) ?_ | refine s_fa (by exact rfl) (by exact rfl) ?_ | refine s_ld_box (by exact rfl) (by exact rfl) (by exact .tail _ (.tail _ (.head _))) (by exact rfl) ?_ | refine s_lss (by exact rfl) (by exact rfl) (by exact rfl) ?_ | refine c_exit ?_ | refine c_ret ?_ | refine k_then_exit ?_ | refine k_blk_eq ?_ | (refine c_cond_p (by exact rfl) (fun h => ?_) (fun h => ?_) <;> try (exfalso; omega))
    obtain rfl : u = N := by omega
    refine ret1 [0, 0] rfl rfl rfl ⟨hs0, hl0, ?_⟩
    rw [show (List.range u).map (part u 0) = (List.range u).map (nearS (tn es)) from by
      apply List.map_congr_left
      intro w hw
      have hw : w < u := by simpa using hw
      simp only [part]
      rw [if_pos hw, hnear w hw]]
end Go.Proofs.YtpajjnkmaebhcaaGreat
end
section
set_option linter.unusedVariables false
namespace Fil
theorem Fs.len {G : Nat × Nat → Nat × Nat} {ds : List (Nat × Nat)} {out : List (List (Nat × Nat))} (h : Fs G ds out) : out.flatten.length ≤ ds.length ∧ out.length ≤ out.flatten.length :=
  ⟨sub_length h.nd h.sub, flat_le fun l hl => (h.cy l hl).1⟩
theorem Fs.all {G : Nat × Nat → Nat × Nat} {ds : List (Nat × Nat)} {n : Nat} (hi : ∀ a ∈ ds, ∀ b ∈ ds, G a = G b → a = b) (hm : ∀ a ∈ ds, G a ∈ ds) (hn : ds.length ≤ n) (l : List (Nat × Nat)) (hl : ∀ z ∈ l, z ∈ ds) : Fs G ds (l.foldl (facesStep G n) []) :=
  (Fs.fold hi hm hn l [] ⟨by simp, by simp, by simp⟩ hl).1
end Fil
namespace Go.Proofs.YtpajjnkmaebhcaaGreat
open Go Go.RowKit Go.Sl Fil
set_option maxRecDepth 100000
set_option maxHeartbeats 8000000
set_option linter.unusedVariables false
set_option linter.unusedSimpArgs false
attribute [local irreducible] Code.wp wpList bodyPost wpQuiet Exit.then Exit.inBlock Post wpAnyH wpOp
theorem in_ok (v : Value) (l : List (Nat × Nat)) (d : Nat × Nat) (w : World) (hs : Shp v l.length) (hr : RO w No v (dsV l)) :
    Calls Tryz.prog 54 #[v, .agg #[.int .i64 (d.1 : Int), .int .i64 (d.2 : Int)]] w (Post w No (Just (.bool (decide (d ∈ l))))) := by
  have hm := hs.1
  simp only [maxLen] at hm
  refine enter0 (vs := [_, _]) Tryz.func54 rfl Tryz.ntmps54 rfl ?_
  repeat' first
    | refine k_then ?_ | refine c_seq ?_ | refine c_region ?_ | refine s_nil ?_ | refine s_assign (by exact rfl) (by exact rfl) ?_ | refine o_box (by exact rfl) (by exact rfl) (fun b => ?_) | refine c_block ?_
  refine c_loop (fun k : Nat => k ≤ l.length ∧ ∀ z ∈ l.take k, z ≠ d) (fun k => [(0, v), (3, .pointer (some ⟨b, 0, none⟩)), (4, .bool false), (5, .int .i64 (k : Int))]) (fun _ => [boxHP b 76 (Value.agg #[.int .i64 (d.1 : Int), .int .i64 (d.2 : Int)]).cells.toList]) (fun k => l.length - k) 0 [0] ⟨Nat.zero_le _, by simp⟩ rfl ⟨rfl, rfl, rfl, rfl, trivial⟩ ?_
  rintro k ⟨hk, hq⟩
  by_cases hlt : k < l.length
  · obtain ⟨z, hz⟩ : ∃ z, l[k]? = some z := ⟨_, List.getElem?_eq_getElem hlt⟩
    have hE := dsV_at hz
    repeat' first
      | refine k_then ?_ | refine c_seq ?_ | refine c_region ?_ | refine s_nil ?_ | refine s_move (by exact rfl) (by exact rfl) ?_ | refine s_lss (by exact rfl) (by exact rfl) (by exact rfl) ?_ | refine s_len (by exact rfl) (by exact rfl) (by assumption) ?_ | refine c_block ?_ | refine c_skip ?_ | (refine c_cond_p (by exact rfl) (fun h => ?_) (fun h => ?_) <;> try (exfalso; omega))
    refine p_begin0 [(0, true), (1, true), (2, true), (3, true), (4, true), (5, true)] (by kernel_rfl) ?_
    repeat' first
      | (refine p_at (by exact rfl) ?_
         first
          | refine t_move (by exact rfl) (by exact rfl) (by exact fun _ h => h) ?_ | refine t_idx (by exact rfl) (by exact rfl) (by exact rfl) (by assumption) (by first | assumption | omega) (by exact fun _ h => h) ?_ | refine t_ldk_box (by exact rfl) (by exact rfl) (by exact .head _) (by exact rfl) (by exact rfl) (by exact fun _ h => h) ?_ | refine t_ldk_ro (by exact rfl) (by exact rfl) (by assumption) (by decide) (by assumption) (by exact rfl) (by exact fun _ h => h) ?_)
    refine p_at (by exact rfl) ?_
    refine t_eql2 (by exact rfl) (by exact rfl) (by exact rfl) (by exact fun _ h => h) ?_
    repeat' first
      | refine p_nil ?_
    repeat' first
      | refine k_then ?_ | refine c_seq ?_ | refine c_region ?_ | refine s_nil ?_ | refine s_move (by exact rfl) (by exact rfl) ?_ | refine s_assign (by exact rfl) (by exact rfl) ?_ | refine s_add (by exact rfl) (by exact rfl) (by exact rfl) (by omega) ?_ | refine c_skip ?_ | refine c_ret ?_ | refine k_then_ret ?_ | refine k_blk ?_ | refine k_blk_ret ?_ | (refine c_cond_p (by exact rfl) (fun h => ?_) (fun h => ?_) <;> try (exfalso; omega))
    · refine ret1 [] rfl rfl rfl ⟨congrArg Value.bool ?_, rfl⟩
      refine (decide_eq_true ?_).symm
      have e : z = d := Prod.ext (by omega) (by omega)
      exact e ▸ List.mem_of_getElem? hz
    · refine c_round (k + 1) [0] (by exact rfl) ⟨rfl, rfl, rfl, rfl, trivial⟩ ⟨by omega, fun y hy => ?_⟩ (by omega)
      rw [List.take_add_one, hz] at hy
      rcases List.mem_append.1 hy with hy | hy
      · exact hq y hy
      · obtain rfl : y = z := by simpa using hy
        intro e
        subst e
        exact h ⟨rfl, rfl⟩
  · repeat' first
      | refine k_then ?_ | refine c_seq ?_ | refine c_region ?_ | refine s_nil ?_ | refine s_move (by exact rfl) (by exact rfl) ?_ | refine s_assign (by exact rfl) (by exact rfl) ?_ | refine s_lss (by exact rfl) (by exact rfl) (by exact rfl) ?_ | refine s_len (by exact rfl) (by exact rfl) (by assumption) ?_ | refine c_exit ?_ | refine c_ret ?_ | refine k_then_exit ?_ | refine k_blk_eq ?_ | (refine c_cond_p (by exact rfl) (fun h => ?_) (fun h => ?_) <;> try (exfalso; omega))
    refine ret1 [] rfl rfl rfl ⟨congrArg Value.bool ?_, rfl⟩
    refine (decide_eq_false fun hd => ?_).symm
    rw [List.take_of_length_le (by omega)] at hq
    exact hq d hd rfl
theorem refFaces_ok (n : Int) (v : Value) (es : List E) (vr : Value) (hr0 : List Value) (R : List (List Nat)) (w : World) (hs : Shp v es.length) (hr : RO w No v (esV es)) (hG : RightG n es) (hR : ROs w No vr hr0 R) (hRot : RotL n.toNat (tn es) R) :
    Calls Tryz.prog 42 #[.agg #[.int .i64 n, v], vr] w (Post w No fun vo L' => ∃ ho : List Value, ho.length = (facesR n.toNat (tn es) R).length ∧ L' = [rowHP vo 77 1 (facesR n.toNat (tn es) R).length ho, starHP (kids rowD ho (facesR n.toNat (tn es) R))]) := by
  have hsr := hR.shp
  have hrr := hR.ro
  have hlo := hG.lo
  have hhi := hG.hi
  have hmany := hG.many
  have hRl := hRot.len
  refine enter0 (vs := [_, _]) Tryz.func42 rfl Tryz.ntmps42 rfl ?_
  repeat' first
    | refine k_then ?_ | refine c_seq ?_ | refine c_region ?_ | refine s_nil ?_ | refine s_assign (by exact rfl) (by exact rfl) ?_ | refine o_box (by exact rfl) (by exact rfl) (fun b => ?_) | refine c_block ?_
  revert b; intro bg
  have hi := all_inj hG hRot
  have hm := all_mem hG hRot
  have hdl := dartsAll_length hG
  have hin : ∀ d ∈ dartsAll n.toNat (tn es), d.1 < n.toNat ∧ d.2 < n.toNat := fun d hd => dart_lt hG hd
  have hdm : ∀ d : Nat × Nat, d ∈ dartsAll n.toNat (tn es) ↔ d.2 ∈ rf R d.1 := fun d => dart_in hG hRot
  have hnx : ∀ d ∈ dartsAll n.toNat (tn es), nextK (intL R) (d.1 : Int) (d.2 : Int) = (((nxt (rf R) d).1 : Int), ((nxt (rf R) d).2 : Int), true) := fun d hd =>
    nextK_nxt (by have := (hin d hd).2; omega) ((hRot.sys hG).sym ((hdm d).1 hd))
  have hnf : ∀ u, ((List.range n.toNat).filter fun v => decide (v ∈ rf R u)).map (fun x => (u, x)) = vc (nearS (tn es)) u := fun u => by rw [near_filter hG hRot, vc]
  have hfR : facesR n.toNat (tn es) R = (dartsOf (nearS (tn es)) (List.range n.toNat)).foldl (facesStep (nxt (rf R)) (2 * es.length + 1)) [] := by rw [facesR, facesL, tn_len, dartsAll]
  have hsub : ∀ u, u ≤ n.toNat → ∀ z ∈ dartsOf (nearS (tn es)) (List.range u), z ∈ dartsAll n.toNat (tn es) := fun u hu z hz => by
    obtain ⟨h1, h2⟩ := mem_darts.1 hz
    exact mem_darts.2 ⟨List.mem_range.2 (by have := List.mem_range.1 h1; omega), h2⟩
  rw [hfR]
  generalize dartsAll n.toNat (tn es) = ds at *
  generalize nxt (rf R) = G at *
  have hFa : ∀ l : List (Nat × Nat), (∀ z ∈ l, z ∈ ds) → Fs G ds (l.foldl (facesStep G (2 * es.length + 1)) []) := fun l hl => Fs.all hi hm (by omega) l hl
  generalize hN : n.toNat = N at *
  have hnN : n = (N : Int) := by omega
  subst hnN
  refine c_nil 76 2 ?_
  refine c_nil 77 1 ?_
  refine c_star0 ?_
  refine c_loop (fun x : Nat × Value × List Value × Value => x.1 ≤ N ∧ x.2.2.1.length = ((dartsOf (nearS (tn es)) (List.range x.1)).foldl (facesStep G (2 * es.length + 1)) []).length)
    (fun x => [(1, vr), (2, .pointer (some ⟨bg, 0, none⟩)), (5, x.2.1), (6, x.2.2.2), (7, .int .i64 (x.1 : Int))])
    (fun x => [rowHP x.2.1 77 1 ((dartsOf (nearS (tn es)) (List.range x.1)).foldl (facesStep G (2 * es.length + 1)) []).length x.2.2.1, starHP (kids rowD x.2.2.1 ((dartsOf (nearS (tn es)) (List.range x.1)).foldl (facesStep G (2 * es.length + 1)) [])),
      rowHP x.2.2.2 76 2 ((dartsOf (nearS (tn es)) (List.range x.1)).foldl (facesStep G (2 * es.length + 1)) []).flatten.length (dsV ((dartsOf (nearS (tn es)) (List.range x.1)).foldl (facesStep G (2 * es.length + 1)) []).flatten), boxHP bg 24 [.int .i64 (N : Int), v]])
    (fun x => N - x.1) (0, .slice none 0 0, [], .slice none 0 0) [1, 0, 0, 0] ⟨Nat.zero_le _, rfl⟩ (by exact rfl) ⟨rfl, rfl, rfl, rfl, rfl, trivial⟩ ?_
  rintro ⟨u, vo, ho, vm⟩ ⟨hu, hol⟩
  dsimp only at hu hol ⊢
  have hFu := hFa _ (hsub u hu)
  have hdsu : dartsOf (nearS (tn es)) (List.range (u + 1)) = dartsOf (nearS (tn es)) (List.range u) ++ vc (nearS (tn es)) u := by rw [List.range_succ, dartsOf, List.flatMap_append]; simp [dartsOf]
  by_cases hlt : u < N
  · obtain ⟨hx, hhx⟩ : ∃ x, hr0[u]? = some x := ⟨_, List.getElem?_eq_getElem (by have := hR.len; omega)⟩
    obtain ⟨l, hl⟩ : ∃ l, R[u]? = some l := ⟨_, List.getElem?_eq_getElem (by omega)⟩
    obtain ⟨hsx, hrx⟩ := hR.kid u hx l hhx hl
    have hgd : rf R u = l := by rw [rf, List.getD_eq_getElem?_getD, hl]; rfl
    have h1' : hr0[u * 1]? = some hx := by rw [Nat.mul_one]; exact hhx
    have hnfu := hnf u
    rw [hgd] at hnfu
    have hPs : ∀ k, ((List.range (k + 1)).filter fun v => decide (v ∈ l)).map (fun x => (u, x)) = ((List.range k).filter fun v => decide (v ∈ l)).map (fun x => (u, x)) ++ if k ∈ l then [(u, k)] else [] := fun k => by
      rw [List.range_succ, List.filter_append, List.map_append]
      by_cases hk : k ∈ l <;> simp [hk]
    have hPm : ∀ k, k < N → k ∈ l → (u, k) ∈ ds := fun k hk hkl => (hdm (u, k)).2 (by rw [hgd]; exact hkl)
    have hFk : ∀ k, k ≤ N → Fs G ds ((((List.range k).filter fun v => decide (v ∈ l)).map (fun x => (u, x))).foldl (facesStep G (2 * es.length + 1)) ((dartsOf (nearS (tn es)) (List.range u)).foldl (facesStep G (2 * es.length + 1)) [])) := fun k hk => by
      rw [← List.foldl_append]
      refine hFa _ fun z hz => ?_
      rcases List.mem_append.1 hz with hz | hz
      · exact hsub u hu z hz
      · obtain ⟨x, hx, rfl⟩ := List.mem_map.1 hz
        obtain ⟨h1, h2⟩ := List.mem_filter.1 hx
        exact hPm x (by have := List.mem_range.1 h1; omega) (by simpa using h2)
    have hO1 : (dartsOf (nearS (tn es)) (List.range (u + 1))).foldl (facesStep G (2 * es.length + 1)) [] = (((List.range N).filter fun v => decide (v ∈ l)).map (fun x => (u, x))).foldl (facesStep G (2 * es.length + 1)) ((dartsOf (nearS (tn es)) (List.range u)).foldl (facesStep G (2 * es.length + 1)) []) := by rw [hdsu, List.foldl_append, hnfu]
    generalize (dartsOf (nearS (tn es)) (List.range u)).foldl (facesStep G (2 * es.length + 1)) [] = X at *
    repeat' first
      | refine k_then ?_ | refine c_seq ?_ | refine c_region ?_ | refine s_nil ?_ | refine s_move (by exact rfl) (by exact rfl) ?_ | refine s_assign (by exact rfl) (by exact rfl) ?_ | refine s_fa (by exact rfl) (by exact rfl) ?_ | refine s_ld_box (by exact rfl) (by exact rfl) (by exact .tail _ (.tail _ (.tail _ (.head _)))) (by exact rfl) ?_ | refine s_lss (by exact rfl) (by exact rfl) (by exact rfl) ?_ | refine c_block ?_ | refine c_skip ?_ | (refine c_cond_p (by exact rfl) (fun h => ?_) (fun h => ?_) <;> try (exfalso; omega))
    refine c_loop (fun x : Nat × Value × List Value × Value => x.1 ≤ N ∧ x.2.2.1.length = ((((List.range x.1).filter fun v => decide (v ∈ l)).map (fun x => (u, x))).foldl (facesStep G (2 * es.length + 1)) X).length)
      (fun x => [(1, vr), (2, .pointer (some ⟨bg, 0, none⟩)), (5, x.2.1), (6, x.2.2.2), (7, .int .i64 (u : Int)), (8, .int .i64 (x.1 : Int))])
      (fun x => [rowHP x.2.1 77 1 ((((List.range x.1).filter fun v => decide (v ∈ l)).map (fun x => (u, x))).foldl (facesStep G (2 * es.length + 1)) X).length x.2.2.1, starHP (kids rowD x.2.2.1 ((((List.range x.1).filter fun v => decide (v ∈ l)).map (fun x => (u, x))).foldl (facesStep G (2 * es.length + 1)) X)),
        rowHP x.2.2.2 76 2 ((((List.range x.1).filter fun v => decide (v ∈ l)).map (fun x => (u, x))).foldl (facesStep G (2 * es.length + 1)) X).flatten.length (dsV ((((List.range x.1).filter fun v => decide (v ∈ l)).map (fun x => (u, x))).foldl (facesStep G (2 * es.length + 1)) X).flatten), boxHP bg 24 [.int .i64 (N : Int), v]])
      (fun x => N - x.1) (0, vo, ho, vm) [0, 0, 0, 0] ⟨Nat.zero_le _, hol⟩ (by exact rfl) ⟨rfl, rfl, rfl, rfl, rfl, rfl, trivial⟩ ?_
    rintro ⟨k, vo2, ho2, vm2⟩ ⟨hk, hol2⟩
    dsimp only at hk hol2 ⊢
    have hF := hFk k hk
    have hF2 := hFk (k + 1)
    rw [hPs k, List.foldl_append] at hF2
    by_cases hkl : k < N
    · have hF2 := hF2 hkl
      have hOk : (((List.range (k + 1)).filter fun v => decide (v ∈ l)).map (fun x => (u, x))).foldl (facesStep G (2 * es.length + 1)) X = (if k ∈ l then [(u, k)] else []).foldl (facesStep G (2 * es.length + 1)) ((((List.range k).filter fun v => decide (v ∈ l)).map (fun x => (u, x))).foldl (facesStep G (2 * es.length + 1)) X) := by rw [hPs k, List.foldl_append]
      have hlen := hF.len
      generalize (((List.range k).filter fun v => decide (v ∈ l)).map (fun x => (u, x))).foldl (facesStep G (2 * es.length + 1)) X = out at *
      refine know_row (v := vm2) (by exact .tail _ (.tail _ (.head _))) fun hvm2 _ => ?_
      repeat' first
        | refine k_then ?_ | refine c_seq ?_ | refine c_region ?_ | refine s_nil ?_ | refine s_move (by exact rfl) (by exact rfl) ?_ | refine s_fa (by exact rfl) (by exact rfl) ?_ | refine s_ld_box (by exact rfl) (by exact rfl) (by exact .tail _ (.tail _ (.tail _ (.head _)))) (by exact rfl) ?_ | refine s_lss (by exact rfl) (by exact rfl) (by exact rfl) ?_ | refine c_block ?_ | refine c_skip ?_ | (refine c_cond_p (by exact rfl) (fun h => ?_) (fun h => ?_) <;> try (exfalso; omega))
      refine o_build (cs := [.int .i64 (u : Int), .int .i64 (k : Int)]) [(0, .int .i64 (u : Int), [.int .i64 (u : Int)]), (1, .int .i64 (k : Int), [.int .i64 (k : Int)])] (by exact rfl) (by exact rfl) (by simp [Value.cells]) (by exact rfl) ?_
      repeat' first
        | refine o_alloc (by exact rfl) (fun b => ?_)
      revert b; intro b9
      refine o_stk_box (i := 0) (us := [.int .i64 (u : Int), .int .i64 (k : Int)]) (by exact rfl) (by exact rfl) (by exact rfl) (by exact rfl) (by exact rfl) (by simp [Value.oneCell']) (by simp [Value.cells]) ?_
      repeat' first
        | refine k_then ?_ | refine c_seq ?_ | refine c_region ?_ | refine s_nil ?_ | refine s_move (by exact rfl) (by exact rfl) ?_ | refine s_idx (by exact rfl) (by exact rfl) (by exact rfl) (by assumption) (by first | assumption | omega) ?_ | refine s_ld_ro (by exact rfl) (by exact rfl) (by assumption) (by assumption) ?_
      refine s_call (by exact rfl) (by exact rfl) (fun w h => HasN_ok hx l k w hsx (ro_old h hrx)) ?_
      by_cases hkin : k ∈ l
      · rw [decide_eq_true hkin]
        rw [if_pos hkin, List.foldl_cons, List.foldl_nil] at hOk hF2
        repeat' first
          | refine s_move (by exact rfl) (by exact rfl) ?_ | refine s_not (by exact rfl) (by exact rfl) ?_ | refine w_move (by exact rfl) (by exact rfl) (by exact rfl) (by exact rfl) ?_ | refine w_ldk_box (by exact rfl) (by exact rfl) (by exact rfl) (by exact rfl) (by exact .head _) (by exact rfl) (by exact rfl) ?_ | refine g_on (by exact rfl) (by exact rfl) ?_
        refine s_call (by exact rfl) (by exact rfl) (fun w h => in_ok vm2 out.flatten (u, k) w hvm2 (ro_own h (by exact .tail _ (.tail _ (.tail _ (.head _)))))) ?_
        by_cases hmet : (u, k) ∈ out.flatten
        · rw [decide_eq_true hmet]
          rw [facesStep, if_pos hmet] at hOk
          repeat' first
            | refine k_then ?_ | refine c_region ?_ | refine s_nil ?_ | refine s_move (by exact rfl) (by exact rfl) ?_ | refine s_assign (by exact rfl) (by exact rfl) ?_ | refine s_add (by exact rfl) (by exact rfl) (by exact rfl) (by omega) ?_ | refine s_pick_f (by exact rfl) (by exact rfl) (by exact rfl) ?_ | refine c_exit ?_ | refine k_then_exit ?_ | refine k_blk_eq ?_ | refine c_cond_t (by exact rfl) ?_
          refine c_round (k + 1, vo2, ho2, vm2) [1, 1, 1, 1] (by dsimp only; rw [hOk]; rfl) ⟨rfl, rfl, rfl, rfl, rfl, rfl, trivial⟩ ⟨by dsimp only; omega, by dsimp only; rw [hOk]; exact hol2⟩ (by dsimp only; omega)
        · rw [decide_eq_false hmet]
          rw [facesStep, if_neg hmet] at hOk hF2
          have hstart := hF.start (hPm k hkl hkin) hmet
          repeat' first
            | refine k_then ?_ | refine c_seq ?_ | refine c_region ?_ | refine s_nil ?_ | refine s_assign (by exact rfl) (by exact rfl) ?_ | refine s_pick_f (by exact rfl) (by exact rfl) (by exact rfl) ?_ | refine s_ldk_box (by exact rfl) (by exact rfl) (by exact .head _) (by exact rfl) (by exact rfl) ?_ | refine o_alloc (by exact rfl) (fun b => ?_) | refine c_skip ?_ | refine c_cond_f (by exact rfl) ?_
          refine o_stk_box (i := 0) (us := [.int .i64 (u : Int), .int .i64 (k : Int)]) (by exact rfl) (by exact rfl) (by exact rfl) (by exact rfl) (by exact rfl) (by simp [Value.oneCell']) (by simp [Value.cells]) ?_
          repeat' first
            | refine k_then ?_ | refine s_nil ?_ | refine c_block ?_
          refine c_nil 76 2 ?_
          refine c_loop (fun x : List (Nat × Nat) × (Nat × Nat) × Value × Nat => InF G ds out (u, k) x.1 x.2.1 ∧ (x.1 = [] ∨ x.2.1 ≠ (u, k)))
            (fun x => [(1, vr), (2, .pointer (some ⟨bg, 0, none⟩)), (5, vo2), (6, vm2), (7, .int .i64 (u : Int)), (8, .int .i64 (k : Int)), (9, .pointer (some ⟨b9, 0, none⟩)), (10, x.2.2.1), (11, .pointer (some ⟨x.2.2.2, 0, none⟩))])
            (fun x => [rowHP x.2.2.1 76 2 x.1.length (dsV x.1), boxHP x.2.2.2 76 [.int .i64 (x.2.1.1 : Int), .int .i64 (x.2.1.2 : Int)], boxHP b9 76 [.int .i64 (u : Int), .int .i64 (k : Int)], rowHP vo2 77 1 out.length ho2, starHP (kids rowD ho2 out), rowHP vm2 76 2 out.flatten.length (dsV out.flatten), boxHP bg 24 [.int .i64 (N : Int), v]])
            (fun x => ds.length - x.1.length) ([], (u, k), .slice none 0 0, b) [0, 0, 0, 0, 0, 0, 0] ⟨hstart, .inl rfl⟩ (by exact rfl) ⟨rfl, rfl, rfl, rfl, rfl, rfl, rfl, rfl, rfl, trivial⟩ ?_
          rintro ⟨f, x, vf, bx⟩ ⟨hI, hne⟩
          dsimp only at hI hne ⊢
          have hxm := hI.mem
          obtain ⟨hxf, hI2⟩ := hI.more hi hm hF.cy hF.sub hne
          have hroom := hI.room hxf
          have hxin := hin x hxm
          have hgx := hin (G x) (hm x hxm)
          refine know_row (v := vf) (.head _) fun hvf _ => ?_
          repeat' first
            | refine k_then ?_ | refine c_seq ?_ | refine c_region ?_ | refine s_nil ?_ | refine s_move (by exact rfl) (by exact rfl) ?_ | refine s_fa (by exact rfl) (by exact rfl) ?_ | refine s_ld_box (by exact rfl) (by exact rfl) (by exact .tail _ (.tail _ (.tail _ (.tail _ (.tail _ (.tail _ (.head _))))))) (by exact rfl) ?_ | refine s_leq (by exact rfl) (by exact rfl) (by exact rfl) ?_ | refine s_mul (by exact rfl) (by exact rfl) (by exact rfl) (by omega) ?_ | refine s_len (by exact rfl) (by exact rfl) (by assumption) ?_ | refine s_ldk_box (by exact rfl) (by exact rfl) (by exact .tail _ (.head _)) (by exact rfl) (by exact rfl) ?_ | refine c_block ?_ | refine c_skip ?_ | (refine c_cond_p (by exact rfl) (fun h => ?_) (fun h => ?_) <;> try (exfalso; omega))
          refine o_mk [.agg #[.int .i64 (x.1 : Int), .int .i64 (x.2 : Int)]] (by exact rfl) (by exact rfl) rfl ?_ ?_ (by simp) fun vt hvt => ?_
          · simp [Value.cells]
          · simp
          rw [show ([Value.agg #[.int .i64 (x.1 : Int), .int .i64 (x.2 : Int)]].flatMap fun u => u.cells.toList) = dsV [x] from rfl]
          skip
          refine o_append_row (i := 1) (by exact rfl) (by exact rfl) (by exact rfl) (by exact rfl) (by exact .head _) (by exact rfl) (by intro u hu; exact dsV_one _ u hu) ?_ fun vf2 hvf2 => ?_
          · show (f.length + 1) * 16 ≤ _
            omega
          repeat' first
            | refine k_then ?_ | refine c_seq ?_ | refine c_region ?_ | refine s_nil ?_ | refine s_move (by exact rfl) (by exact rfl) ?_ | refine s_assign (by exact rfl) (by exact rfl) ?_ | refine s_ldk_box (by exact rfl) (by exact rfl) (by exact .tail _ (.tail _ (.head _))) (by exact rfl) (by exact rfl) ?_
          refine s_call (by exact rfl) (by exact rfl) (fun w h => refNext_ok vr hr0 (intL R) x.1 x.2 w (rosI_old h hR.int)) ?_
          rw [hnx x hxm]
          repeat' first
            | refine s_move (by exact rfl) (by exact rfl) ?_ | refine s_extract (by exact rfl) (by exact rfl) (by exact rfl) ?_
          refine o_stk_box (i := 2) (us := [.int .i64 ((G x).1 : Int), .int .i64 ((G x).2 : Int)]) (by exact rfl) (by exact rfl) (by exact rfl) (by exact rfl) (by exact rfl) (by simp [Value.oneCell']) (by simp [Value.cells, putL]) ?_
          repeat' first
            | refine k_then ?_ | refine c_seq ?_ | refine c_region ?_ | refine s_nil ?_ | refine s_ldk_box (by exact rfl) (by exact rfl) (by first | exact .tail _ (.tail _ (.head _)) | exact .tail _ (.tail _ (.tail _ (.head _)))) (by exact rfl) (by exact rfl) ?_
          refine s_eql2 (by exact rfl) (by exact rfl) (by exact rfl) ?_
          repeat' first
            | refine k_then ?_ | refine c_seq ?_ | refine c_region ?_ | refine s_nil ?_ | refine s_move (by exact rfl) (by exact rfl) ?_ | refine s_ldk_box (by exact rfl) (by exact rfl) (by exact .tail _ (.tail _ (.head _))) (by exact rfl) (by exact rfl) ?_ | refine o_alloc (by exact rfl) (fun b => ?_) | refine c_skip ?_ | refine c_exit ?_ | refine k_then_exit ?_ | refine k_blk ?_ | refine k_blk_eq ?_ | refine k_blk_ne (by exact rfl) ?_ | (refine c_cond_p (by exact rfl) (fun h => ?_) (fun h => ?_) <;> try (exfalso; omega))
          · have e : G x = (u, k) := Prod.ext (by dsimp only; omega) (by dsimp only; omega)
            rw [e] at hI2
            have htr : tr G (u, k) (2 * es.length + 1) (u, k) = f ++ [x] := hI2.tr (by simp) (by rw [List.length_append]; simp only [List.length_cons, List.length_nil]; omega)
            rw [htr] at hOk hF2
            have hF2l := hF2.len
            rw [List.flatten_append, List.length_append, List.length_append] at hF2l
            simp only [List.flatten_cons, List.flatten_nil, List.append_nil, List.length_append, List.length_cons, List.length_nil] at hF2l
            refine o_append_row (i := 6) (by exact rfl) (by exact rfl) (by exact rfl) (by exact rfl) (by exact .tail _ (.head _)) ?_ ?_ ?_ fun vm3 hvm3 => ?_
            · rw [List.length_append, dsV_length, dsV_length]; simp only [List.length_cons, List.length_nil]; omega
            · intro u hu
              rcases List.mem_append.1 hu with hu | hu
              · exact dsV_one _ u hu
              · exact dsV_one _ u hu
            · show (out.flatten.length + (f.length + 1)) * 16 ≤ _
              omega
            repeat' first
              | refine k_then ?_ | refine c_region ?_ | refine s_nil ?_ | refine s_move (by exact rfl) (by exact rfl) ?_ | refine s_assign (by exact rfl) (by exact rfl) ?_
            refine o_mk [vf2] (by exact rfl) (by exact rfl) rfl ?_ ?_ (by simp) fun vt2 hvt2 => ?_
            · intro u hu
              obtain rfl : u = vf2 := by simpa using hu
              rw [← Array.length_toList, one_cells hvf2.one]; rfl
            · simp
            rw [show ([vf2].flatMap fun u => u.cells.toList) = [vf2] from by simp [one_cells hvf2.one]]
            skip
            refine o_append_row (i := 5) (by exact rfl) (by exact rfl) (by exact rfl) (by exact rfl) (by exact .head _) (by exact rfl) (by simp [hvf2.one]) ?_ fun vo3 hvo3 => ?_
            · show (out.length + 1) * 24 ≤ _
              omega
            repeat' first
              | refine k_then ?_ | refine c_region ?_ | refine s_nil ?_ | refine s_move (by exact rfl) (by exact rfl) ?_ | refine s_assign (by exact rfl) (by exact rfl) ?_ | refine s_add (by exact rfl) (by exact rfl) (by exact rfl) (by omega) ?_ | refine k_blk ?_
            refine c_pick [2, 4, 4, 4, 4] (by exact rfl) ?_
            refine c_pushk 1 (by exact rfl) ?_
            refine c_round (k + 1, vo3, ho2 ++ [vf2], vm3) [0, 0, 0, 0] ?_ ⟨rfl, rfl, rfl, rfl, rfl, rfl, trivial⟩ ⟨by dsimp only; omega, by dsimp only; rw [hOk, List.length_append, List.length_append, hol2]; rfl⟩ (by dsimp only; omega)
            dsimp only
            rw [hOk, kids_append hol2, List.flatten_append, show [f ++ [x]].flatten = f ++ [x] by simp, dsV_append, dsV_append, List.length_append, List.length_append, List.length_append, show rowD vf2 (f ++ [x]) = rowHP vf2 76 2 (f.length + 1) (dsV f ++ dsV [x]) from by rw [rowD, dsV_append, List.length_append]; rfl]
            rfl
          · have e : G x ≠ (u, k) := fun e => h (by rw [e]; exact ⟨rfl, rfl⟩)
            refine o_stk_box (i := 0) (us := [.int .i64 ((G x).1 : Int), .int .i64 ((G x).2 : Int)]) (by exact rfl) (by exact rfl) (by exact rfl) (by exact rfl) (by exact rfl) (by simp [Value.oneCell']) (by simp [Value.cells, putL]) ?_
            repeat' first
              | refine k_then ?_ | refine s_nil ?_
            refine c_round (f ++ [x], G x, vf2, b) [2, 0, 2, 2, 2, 2, 2] ?_ ⟨rfl, rfl, rfl, rfl, rfl, rfl, rfl, rfl, rfl, trivial⟩ ⟨hI2, .inr e⟩ (by dsimp only; rw [List.length_append]; simp only [List.length_cons, List.length_nil]; omega)
            dsimp only
            rw [dsV_append, List.length_append]
            rfl
      · rw [decide_eq_false hkin]
        rw [if_neg hkin, List.foldl_nil] at hOk
        repeat' first
          | refine k_then ?_ | refine c_region ?_ | refine s_nil ?_ | refine s_move (by exact rfl) (by exact rfl) ?_ | refine s_assign (by exact rfl) (by exact rfl) ?_ | refine s_add (by exact rfl) (by exact rfl) (by exact rfl) (by omega) ?_ | refine s_not (by exact rfl) (by exact rfl) ?_ | refine s_pick_t (by exact rfl) (by exact rfl) (by exact rfl) ?_ | refine c_exit ?_ | refine k_then_exit ?_ | refine k_blk_eq ?_ | refine c_cond_t (by exact rfl) ?_ | refine g_skip (by exact rfl) (by exact rfl) (by exact rfl) (by exact rfl) ?_
        refine c_round (k + 1, vo2, ho2, vm2) [1, 1, 1, 1] (by dsimp only; rw [hOk]; rfl) ⟨rfl, rfl, rfl, rfl, rfl, rfl, trivial⟩ ⟨by dsimp only; omega, by dsimp only; rw [hOk]; exact hol2⟩ (by dsimp only; omega)
    · repeat' first
        | refine k_then ?_ | refine c_seq ?_ | refine c_region ?_ | refine s_nil ?_ | refine s_move (by exact rfl) (by exact rfl) ?_ | refine s_assign (by exact rfl) (by exact rfl) ?_ | refine s_fa (by exact rfl) (by exact rfl) ?_ | refine s_ld_box (by exact rfl) (by exact rfl) (by exact .tail _ (.tail _ (.tail _ (.head _)))) (by exact rfl) ?_ | refine s_lss (by exact rfl) (by exact rfl) (by exact rfl) ?_ | refine s_add (by exact rfl) (by exact rfl) (by exact rfl) (by omega) ?_ | refine c_exit ?_ | refine k_then_exit ?_ | refine k_blk ?_ | refine k_blk_eq ?_ | (refine c_cond_p (by exact rfl) (fun h => ?_) (fun h => ?_) <;> try (exfalso; omega))
      obtain rfl : k = N := by omega
      refine c_round (u + 1, vo2, ho2, vm2) [0, 0, 0, 0] (by dsimp only; rw [hO1]; rfl) ⟨rfl, rfl, rfl, rfl, rfl, trivial⟩ ⟨by dsimp only; omega, by dsimp only; rw [hO1]; exact hol2⟩ (by dsimp only; omega)
  · repeat' first
      | refine k_then ?_ | refine c_seq ?_ | refine c_region ?_ | refine s_nil ?_ | refine s_move (by exact rfl) (by exact rfl) ?_ | refine s_assign (by exact rfl) (by exact rfl) ?_ | refine s_fa (by exact rfl) (by exact rfl) ?_ | refine s_ld_box (by exact rfl) (by exact rfl) (by exact .tail _ (.tail _ (.tail _ (.head _)))) (by exact rfl) ?_ | refine s_lss (by exact rfl) (by exact rfl) (by exact rfl) ?_ | refine c_exit ?_ | refine c_ret ?_ | refine k_then_exit ?_ | refine k_blk_eq ?_ | (refine c_cond_p (by exact rfl) (fun h => ?_) (fun h => ?_) <;> try (exfalso; omega))
    obtain rfl : u = N := by omega
    refine ret1 [0, 0] rfl rfl rfl ⟨ho, hol, rfl⟩
/-- lists of darts that are read -/
structure ROd (w : World) (S : FS) (v : Value) (hs : List Value) (F : List (List (Nat × Nat))) : Prop where
  shp : Shp v F.length
  len : hs.length = F.length
  ro : RO w S v hs
  kid : ∀ (i : Nat) h l, hs[i]? = some h → F[i]? = some l → Shp h l.length ∧ RO w S h (dsV l)
end Go.Proofs.YtpajjnkmaebhcaaGreat
end
section
namespace Go.Proofs.YtpajjnkmaebhcaaGreat
open Go.RowKit Go.Sl Fil
set_option maxRecDepth 100000
set_option maxHeartbeats 8000000
set_option linter.unusedVariables false
set_option linter.unusedSimpArgs false
attribute [local irreducible] Code.wp wpList bodyPost wpQuiet Exit.then Exit.inBlock Post wpAnyH wpOp
theorem Labels_ok (n : Int) (v : Value) (es : List E) (w : World) (hs : Shp v es.length) (hr : RO w No v (esV es)) (hR : RightG n es) :
    Calls Tryz.prog 26 #[.agg #[.int .i64 n, v]] w (Post w No fun r L' => L' = [rowHP r 3 1 n.toNat (nV (rounds relaxL (tn es) n.toNat (List.range n.toNat)))]) := by
  have hm : es.length < 4611686018427387904 := by have := hR.many; omega
  have hlo := hR.lo
  have hhi := hR.hi
  refine enter0 (vs := [_]) Tryz.func26 rfl Tryz.ntmps26 rfl ?_
  repeat' first
    | refine k_then ?_ | refine c_seq ?_ | refine c_region ?_ | refine s_nil ?_ | refine s_assign (by exact rfl) (by exact rfl) ?_ | refine s_fa (by exact rfl) (by exact rfl) ?_ | refine s_ld_box (by exact rfl) (by exact rfl) (by exact .head _) (by exact rfl) ?_ | refine o_box (by exact rfl) (by exact rfl) (fun b => ?_)
  refine o_make (by exact rfl) (by exact rfl) (by exact rfl) (by omega) (by omega) fun vl hvl => ?_
  rw [made1 (z := .int .i64 0) rfl]
  repeat' first
    | refine k_then ?_ | refine c_seq ?_ | refine c_region ?_ | refine s_nil ?_ | refine s_assign (by exact rfl) (by exact rfl) ?_ | refine c_block ?_
  generalize hN : n.toNat = N at *
  have hnN : n = (N : Int) := by omega
  subst hnN
  refine c_loop (fun i : Nat => i ≤ N) (fun i => [(1, .pointer (some ⟨b, 0, none⟩)), (3, vl), (4, .int .i64 (i : Int))]) (fun i => [rowHP vl 3 1 N (nV (fillL id 0 N i)), boxHP b 24 [.int .i64 (N : Int), v]]) (fun i => N - i) 0 [0, 0] (Nat.zero_le _) (by rw [fill_zero]; simp only [nV, List.map_replicate]; rfl) ⟨rfl, rfl, rfl, trivial⟩ ?_
  intro i hi
  by_cases hil : i < N
  · repeat' first
      | refine k_then ?_ | refine c_seq ?_ | refine c_region ?_ | refine s_nil ?_ | refine s_move (by exact rfl) (by exact rfl) ?_ | refine s_fa (by exact rfl) (by exact rfl) ?_ | refine s_ld_box (by exact rfl) (by exact rfl) (by exact .tail _ (.head _)) (by exact rfl) ?_ | refine s_lss (by exact rfl) (by exact rfl) (by exact rfl) ?_ | refine s_idx (by exact rfl) (by exact rfl) (by exact rfl) (by assumption) (by first | assumption | omega) ?_ | refine c_block ?_ | refine c_skip ?_ | (refine c_cond_p (by exact rfl) (fun h => ?_) (fun h => ?_) <;> try (exfalso; omega))
    refine o_st_row (i := 0) (by exact rfl) (by exact rfl) (by exact rfl) rfl (by omega) ?_
    repeat' first
      | refine k_then ?_ | refine c_region ?_ | refine s_nil ?_ | refine s_move (by exact rfl) (by exact rfl) ?_ | refine s_assign (by exact rfl) (by exact rfl) ?_ | refine s_add (by exact rfl) (by exact rfl) (by exact rfl) (by omega) ?_ | refine k_blk ?_
    refine c_round (i + 1) [0, 0] (by rw [nV_set, ← fill_set id 0 hil]; rfl) (by exact ⟨rfl, rfl, rfl, trivial⟩) (by omega) (by omega)
  · repeat' first
      | refine k_then ?_ | refine c_seq ?_ | refine c_region ?_ | refine s_nil ?_ | refine s_move (by exact rfl) (by exact rfl) ?_ | refine s_assign (by exact rfl) (by exact rfl) ?_ | refine s_fa (by exact rfl) (by exact rfl) ?_ | refine s_ld_box (by exact rfl) (by exact rfl) (by exact .tail _ (.head _)) (by exact rfl) ?_ | refine s_lss (by exact rfl) (by exact rfl) (by exact rfl) ?_ | refine c_block ?_ | refine c_exit ?_ | refine k_then_exit ?_ | refine k_blk_eq ?_ | (refine c_cond_p (by exact rfl) (fun h => ?_) (fun h => ?_) <;> try (exfalso; omega))
    obtain rfl : i = N := by omega
    have hl0 : (List.range i).length = i := by simp
    have hlen : ∀ (r : List (Nat × Nat)) (c : List Nat), (r.foldl relaxL c).length = c.length := by
      intro r
      induction r with
      | nil => intro c; rfl
      | cons e r ih => intro c; rw [List.foldl_cons, ih]; simp [relaxL]
    have hrl : ∀ k, (rounds relaxL (tn es) k (List.range i)).length = i := by
      intro k
      induction k with
      | zero => simp [rounds]
      | succ k ih => rw [rounds, hlen, ih]
    refine c_loop (fun q : Nat => q ≤ i) (fun q => [(1, .pointer (some ⟨b, 0, none⟩)), (3, vl), (5, .int .i64 (q : Int))]) (fun q => [rowHP vl 3 1 i (nV (rounds relaxL (tn es) q (List.range i))), boxHP b 24 [.int .i64 (i : Int), v]]) (fun q => i - q) 0 [0, 0] (Nat.zero_le _) (by rw [fillL_all, List.map_id]; rfl) ⟨rfl, rfl, rfl, trivial⟩ ?_
    intro q hq
    by_cases hql : q < i
    · repeat' first
        | refine k_then ?_ | refine c_seq ?_ | refine c_region ?_ | refine s_nil ?_ | refine s_move (by exact rfl) (by exact rfl) ?_ | refine s_assign (by exact rfl) (by exact rfl) ?_ | refine s_fa (by exact rfl) (by exact rfl) ?_ | refine s_ld_box (by exact rfl) (by exact rfl) (by exact .tail _ (.head _)) (by exact rfl) ?_ | refine s_lss (by exact rfl) (by exact rfl) (by exact rfl) ?_ | refine c_block ?_ | refine c_skip ?_ | (refine c_cond_p (by exact rfl) (fun h => ?_) (fun h => ?_) <;> try (exfalso; omega))
      generalize hc0 : rounds relaxL (tn es) q (List.range i) = c0 at *
      have hc0l : c0.length = i := by rw [← hc0]; exact hrl q
      refine c_loop (fun k : Nat => k ≤ es.length) (fun k => [(1, .pointer (some ⟨b, 0, none⟩)), (3, vl), (5, .int .i64 (q : Int)), (6, .int .i64 (k : Int))]) (fun k => [rowHP vl 3 1 i (nV ((tn (es.take k)).foldl relaxL c0)), boxHP b 24 [.int .i64 (i : Int), v]]) (fun k => es.length - k) 0 [0, 0] (Nat.zero_le _) (by exact rfl) ⟨rfl, rfl, rfl, rfl, trivial⟩ ?_
      intro k hk
      by_cases hkl : k < es.length
      · obtain ⟨e, he⟩ : ∃ e, es[k]? = some e := ⟨_, List.getElem?_eq_getElem hkl⟩
        obtain ⟨hE0, hE1, hE2⟩ := esV_get he
        obtain ⟨q1, q2, q3, -, -⟩ := hR.ok e (List.mem_of_getElem? he)
        have htk := tn_take he
        generalize hc : (tn (es.take k)).foldl relaxL c0 = c at *
        have hcl : c.length = i := by rw [← hc, hlen]; exact hc0l
        have hu := nV_get (l := c) (k := e.1.toNat) (by omega)
        have hv := nV_get (l := c) (k := e.2.1.toNat) (by omega)
        repeat' first
          | refine k_then ?_ | refine c_seq ?_ | refine c_region ?_ | refine s_nil ?_ | refine s_move (by exact rfl) (by exact rfl) ?_ | refine s_fa (by exact rfl) (by exact rfl) ?_ | refine s_ld_box (by exact rfl) (by exact rfl) (by exact .tail _ (.head _)) (by exact rfl) ?_ | refine s_lss (by exact rfl) (by exact rfl) (by exact rfl) ?_ | refine s_len (by exact rfl) (by exact rfl) (by assumption) ?_ | refine c_block ?_ | refine c_skip ?_ | (refine c_cond_p (by exact rfl) (fun h => ?_) (fun h => ?_) <;> try (exfalso; omega))
        refine p_begin0 [(0, true), (1, true), (2, true), (3, true), (4, true), (5, true), (6, true), (7, true), (8, true), (9, true), (10, true), (11, true), (12, true), (13, true), (14, true), (15, true), (16, true), (17, true), (18, true), (19, true)] (by kernel_rfl) ?_
        repeat' first
          | refine p_nil ?_
          | (refine p_at (by exact rfl) ?_
             first
              | refine t_move (by exact rfl) (by exact rfl) (by exact fun _ h => h) ?_ | refine t_assign (by exact rfl) (by exact rfl) (by exact fun _ h => h) ?_ | refine t_fa (by exact rfl) (by exact rfl) (by exact fun _ h => h) ?_ | refine t_ld_box (by exact rfl) (by exact rfl) (by exact .tail _ (.head _)) (by exact rfl) (by exact fun _ h => h) ?_ | refine t_min (by exact rfl) (by exact rfl) (by exact rfl) (by exact fun _ h => h) ?_ | refine t_idx (by exact rfl) (by exact rfl) (by exact rfl) (by assumption) (by first | assumption | omega) (by exact fun _ h => h) ?_ | refine t_idxi (by exact rfl) (by exact rfl) (by exact rfl) (by assumption) (by first | assumption | omega) (by exact fun _ h => h) ?_ | refine t_fap (by exact rfl) (by exact rfl) (by assumption) (by omega) (by exact fun _ h => h) ?_ | refine t_ld_ro (by exact rfl) (by exact rfl) (by assumption) (by assumption) (by exact fun _ h => h) ?_ | refine t_ld_row (by exact rfl) (by exact rfl) (by exact .head _) (by assumption) (by exact fun _ h => h) ?_)
        repeat' first
          | refine k_then ?_ | refine c_seq ?_ | refine c_region ?_ | refine s_move (by exact rfl) (by exact rfl) ?_ | refine s_fa (by exact rfl) (by exact rfl) ?_ | refine s_ld_box (by exact rfl) (by exact rfl) (by exact .tail _ (.head _)) (by exact rfl) ?_ | refine s_idx (by exact rfl) (by exact rfl) (by exact rfl) (by assumption) (by first | assumption | omega) ?_ | refine s_idxi (by exact rfl) (by exact rfl) (by exact rfl) (by assumption) (by first | assumption | omega) ?_ | refine s_fap (by exact rfl) (by exact rfl) (by assumption) (by omega) ?_ | refine s_ld_ro (by exact rfl) (by exact rfl) (by assumption) (by assumption) ?_
        rw [show min ((c.getD e.1.toNat 0 : Nat) : Int) ((c.getD e.2.1.toNat 0 : Nat) : Int) = ((min (c.getD e.1.toNat 0) (c.getD e.2.1.toNat 0) : Nat) : Int) from by omega]
        refine o_st_row (i := 0) (by exact rfl) (by exact rfl) (by exact rfl) rfl (by omega) ?_
        repeat' first
          | refine k_then ?_ | refine c_region ?_ | refine s_nil ?_ | refine s_move (by exact rfl) (by exact rfl) ?_ | refine s_fa (by exact rfl) (by exact rfl) ?_ | refine s_ld_box (by exact rfl) (by exact rfl) (by exact .tail _ (.head _)) (by exact rfl) ?_ | refine s_idx (by exact rfl) (by exact rfl) (by exact rfl) (by assumption) (by first | assumption | omega) ?_ | refine s_idxi (by exact rfl) (by exact rfl) (by exact rfl) (by assumption) (by first | assumption | omega) ?_ | refine s_fap (by exact rfl) (by exact rfl) (by assumption) (by omega) ?_ | refine s_ld_ro (by exact rfl) (by exact rfl) (by assumption) (by assumption) ?_
        refine o_st_row (i := 0) (by exact rfl) (by exact rfl) (by exact rfl) rfl (by omega) ?_
        repeat' first
          | refine k_then ?_ | refine c_region ?_ | refine s_nil ?_ | refine s_move (by exact rfl) (by exact rfl) ?_ | refine s_assign (by exact rfl) (by exact rfl) ?_ | refine s_add (by exact rfl) (by exact rfl) (by exact rfl) (by omega) ?_ | refine k_blk ?_
        refine c_round (k + 1) [0, 0] ?_ (by exact ⟨rfl, rfl, rfl, rfl, trivial⟩) (by omega) (by omega)
        rw [htk, List.foldl_append, hc, nV_set, nV_set]
        rfl
      · repeat' first
          | refine k_then ?_ | refine c_seq ?_ | refine c_region ?_ | refine s_nil ?_ | refine s_move (by exact rfl) (by exact rfl) ?_ | refine s_assign (by exact rfl) (by exact rfl) ?_ | refine s_fa (by exact rfl) (by exact rfl) ?_ | refine s_ld_box (by exact rfl) (by exact rfl) (by exact .tail _ (.head _)) (by exact rfl) ?_ | refine s_lss (by exact rfl) (by exact rfl) (by exact rfl) ?_ | refine s_add (by exact rfl) (by exact rfl) (by exact rfl) (by omega) ?_ | refine s_len (by exact rfl) (by exact rfl) (by assumption) ?_ | refine c_exit ?_ | refine k_then_exit ?_ | refine k_blk ?_ | refine k_blk_eq ?_ | (refine c_cond_p (by exact rfl) (fun h => ?_) (fun h => ?_) <;> try (exfalso; omega))
        obtain rfl : k = es.length := by omega
        refine c_round (q + 1) [0, 0] (by rw [List.take_length, rounds, hc0]; rfl) (by exact ⟨rfl, rfl, rfl, trivial⟩) (by omega) (by omega)
    · repeat' first
        | refine k_then ?_ | refine c_seq ?_ | refine c_region ?_ | refine s_nil ?_ | refine s_move (by exact rfl) (by exact rfl) ?_ | refine s_assign (by exact rfl) (by exact rfl) ?_ | refine s_fa (by exact rfl) (by exact rfl) ?_ | refine s_ld_box (by exact rfl) (by exact rfl) (by exact .tail _ (.head _)) (by exact rfl) ?_ | refine s_lss (by exact rfl) (by exact rfl) (by exact rfl) ?_ | refine c_exit ?_ | refine c_ret ?_ | refine k_then_exit ?_ | refine k_blk_eq ?_ | (refine c_cond_p (by exact rfl) (fun h => ?_) (fun h => ?_) <;> try (exfalso; omega))
      obtain rfl : q = i := by omega
      refine ret1 [0] rfl rfl rfl rfl
end Go.Proofs.YtpajjnkmaebhcaaGreat
end
section
namespace Go.Proofs.YtpajjnkmaebhcaaGreat
open Go.RowKit Go.Sl Fil
set_option maxRecDepth 100000
set_option maxHeartbeats 8000000
set_option linter.unusedVariables false
set_option linter.unusedSimpArgs false
attribute [local irreducible] Code.wp wpList bodyPost wpQuiet Exit.then Exit.inBlock Post wpAnyH wpOp
theorem refComps_ok (n : Int) (v : Value) (es : List E) (o lab : Nat → Nat) (w : World) (hs : Shp v es.length) (hr : RO w No v (esV es)) (hR : RightG n es) (hLev : Lev n.toNat (nb (tn es)) o lab) :
    Calls Tryz.prog 12 #[.agg #[.int .i64 n, v]] w (Post w No fun r L' => ∃ hr : List Value, hr.length = (compsS n.toNat lab).length ∧ L' = [rowHP r 41 1 (compsS n.toNat lab).length hr, starHP (kids rowN hr (compsS n.toNat lab))]) := by
  have hlo := hR.lo
  have hhi := hR.hi
  refine enter0 (vs := [_]) Tryz.func12 rfl Tryz.ntmps12 rfl ?_
  repeat' first
    | refine k_then ?_ | refine c_seq ?_ | refine c_region ?_ | refine s_nil ?_ | refine s_assign (by exact rfl) (by exact rfl) ?_ | refine s_ldk_box (by exact rfl) (by exact rfl) (by exact .head _) (by exact rfl) (by exact rfl) ?_ | refine o_box (by exact rfl) (by exact rfl) (fun b => ?_)
  refine o_call (by exact rfl) (by exact rfl) (fun w h => Labels_ok n v es w hs (ro_old h hr) hR) ?_
  rintro vl _ rfl
  refine know_row (v := vl) (.head _) fun hvl _ => ?_
  rw [ref_labels hR.good hLev]
  repeat' first
    | refine k_then ?_ | refine c_seq ?_ | refine c_region ?_ | refine s_nil ?_ | refine s_assign (by exact rfl) (by exact rfl) ?_ | refine c_block ?_
  have hle := hLev.le
  generalize hN : n.toNat = N at *
  have hnN : n = (N : Int) := by omega
  subst hnN
  refine c_nil 41 1 ?_
  refine c_star0 ?_
  refine c_loop (fun x : Nat × Value × List Value => x.1 ≤ N ∧ x.2.2.length = (compsI N x.1 lab).length) (fun x => [(1, .pointer (some ⟨b, 0, none⟩)), (3, vl), (4, x.2.1), (5, .int .i64 (x.1 : Int))])
    (fun x => [rowHP x.2.1 41 1 (compsI N x.1 lab).length x.2.2, starHP (kids rowN x.2.2 (compsI N x.1 lab)), rowHP vl 3 1 N (nV ((List.range N).map lab)), boxHP b 24 [.int .i64 (N : Int), v]]) (fun x => N - x.1) (0, .slice none 0 0, []) [1, 0, 0, 0] ⟨Nat.zero_le _, rfl⟩ (by exact rfl) ⟨rfl, rfl, rfl, rfl, trivial⟩ ?_
  rintro ⟨i, vo, ho⟩ ⟨hi, hho⟩
  dsimp only at hi hho ⊢
  by_cases hil : i < N
  · have hli := nV_get (l := (List.range N).map lab) (k := i) (by simpa using hil)
    rw [show ((List.range N).map lab).getD i 0 = lab i from by simp [hil]] at hli
    by_cases hlab : lab i = i
    · have hadd := compsI_add (N := N) hlab
      have hcl := compsI_length N i lab
      generalize hcs : compsI N i lab = cs at *
      repeat' first
        | refine k_then ?_ | refine c_seq ?_ | refine c_region ?_ | refine s_nil ?_ | refine s_move (by exact rfl) (by exact rfl) ?_ | refine s_assign (by exact rfl) (by exact rfl) ?_ | refine s_fa (by exact rfl) (by exact rfl) ?_ | refine s_ld_box (by exact rfl) (by exact rfl) (by exact .tail _ (.tail _ (.tail _ (.head _)))) (by exact rfl) ?_ | refine s_lss (by exact rfl) (by exact rfl) (by exact rfl) ?_ | refine s_neq (by exact rfl) (by exact rfl) (by exact rfl) ?_ | refine s_idx (by exact rfl) (by exact rfl) (by exact rfl) (by assumption) (by first | assumption | omega) ?_ | refine s_ld_row (by exact rfl) (by exact rfl) (by exact .tail _ (.tail _ (.head _))) (by assumption) ?_ | refine c_block ?_ | refine c_skip ?_ | (refine c_cond_p (by exact rfl) (fun h => ?_) (fun h => ?_) <;> try (exfalso; omega))
      refine c_nil 3 1 ?_
      refine c_loop (fun x : Nat × Value => i ≤ x.1 ∧ x.1 ≤ N) (fun x => [(1, .pointer (some ⟨b, 0, none⟩)), (3, vl), (4, vo), (5, .int .i64 (i : Int)), (6, x.2), (7, .int .i64 (x.1 : Int))])
        (fun x => [rowHP x.2 3 1 ((List.range x.1).filter fun u => lab u == i).length (nV ((List.range x.1).filter fun u => lab u == i)), rowHP vo 41 1 cs.length ho, starHP (kids rowN ho cs), rowHP vl 3 1 N (nV ((List.range N).map lab)), boxHP b 24 [.int .i64 (N : Int), v]]) (fun x => N - x.1) (i, .slice none 0 0) [0, 0, 0, 0, 0] ⟨Nat.le_refl _, hi⟩ (by dsimp only; rw [row_low fun u hu => hle u (by omega)]; rfl) ⟨rfl, rfl, rfl, rfl, rfl, rfl, trivial⟩ ?_
      rintro ⟨u, vc⟩ ⟨hiu, hu⟩
      dsimp only at hiu hu ⊢
      by_cases hul : u < N
      · have hlu := nV_get (l := (List.range N).map lab) (k := u) (by simpa using hul)
        rw [show ((List.range N).map lab).getD u 0 = lab u from by simp [hul]] at hlu
        have hrl := row_length u i lab
        by_cases hlabu : lab u = i
        · have hra := row_add (u := u) hlabu
          generalize hrow : (List.range u).filter (fun u => lab u == i) = row at *
          repeat' first
            | refine k_then ?_ | refine c_seq ?_ | refine c_region ?_ | refine s_nil ?_ | refine s_move (by exact rfl) (by exact rfl) ?_ | refine s_fa (by exact rfl) (by exact rfl) ?_ | refine s_ld_box (by exact rfl) (by exact rfl) (by exact .tail _ (.tail _ (.tail _ (.tail _ (.head _))))) (by exact rfl) ?_ | refine s_lss (by exact rfl) (by exact rfl) (by exact rfl) ?_ | refine s_eql (by exact rfl) (by exact rfl) (by exact rfl) ?_ | refine s_idx (by exact rfl) (by exact rfl) (by exact rfl) (by assumption) (by first | assumption | omega) ?_ | refine s_ld_row (by exact rfl) (by exact rfl) (by exact .tail _ (.tail _ (.tail _ (.head _)))) (by assumption) ?_ | refine c_block ?_ | refine c_skip ?_ | (refine c_cond_p (by exact rfl) (fun h => ?_) (fun h => ?_) <;> try (exfalso; omega))
          refine o_mk [.int .i64 (u : Int)] (by exact rfl) (by exact rfl) rfl ?_ ?_ (by simp) fun vt hvt => ?_
          · simp [Value.cells]
          · simp
          skip
          refine o_append_row (i := 1) (by exact rfl) (by exact rfl) (by exact rfl) (by exact rfl) (by exact .head _) (by exact rfl) (by simp [Value.cells, Value.oneCell']) ?_ fun vd hvd => ?_
          · omega
          repeat' first
            | refine k_then ?_ | refine c_region ?_ | refine s_nil ?_ | refine s_move (by exact rfl) (by exact rfl) ?_ | refine s_assign (by exact rfl) (by exact rfl) ?_ | refine s_add (by exact rfl) (by exact rfl) (by exact rfl) (by omega) ?_ | refine k_blk ?_
          refine c_round (u + 1, vd) [1, 1, 1, 1, 1] ?_ (by exact ⟨rfl, rfl, rfl, rfl, rfl, rfl, trivial⟩) (by dsimp only; omega) (by dsimp only; omega)
          dsimp only
          rw [hra]
          have e1 : rowHP vd 3 1 (row.length + 1) (nV row ++ [Value.int .i64 (u : Int)]) = rowHP vd 3 1 (row ++ [u]).length (nV (row ++ [u])) := by simp [nV]
          rw [← e1]
          rfl
        · have hrn := row_next (u := u) hlabu
          repeat' first
            | refine k_then ?_ | refine c_seq ?_ | refine c_region ?_ | refine s_nil ?_ | refine s_move (by exact rfl) (by exact rfl) ?_ | refine s_assign (by exact rfl) (by exact rfl) ?_ | refine s_fa (by exact rfl) (by exact rfl) ?_ | refine s_ld_box (by exact rfl) (by exact rfl) (by exact .tail _ (.tail _ (.tail _ (.tail _ (.head _))))) (by exact rfl) ?_ | refine s_lss (by exact rfl) (by exact rfl) (by exact rfl) ?_ | refine s_eql (by exact rfl) (by exact rfl) (by exact rfl) ?_ | refine s_add (by exact rfl) (by exact rfl) (by exact rfl) (by omega) ?_ | refine s_idx (by exact rfl) (by exact rfl) (by exact rfl) (by assumption) (by first | assumption | omega) ?_ | refine s_ld_row (by exact rfl) (by exact rfl) (by exact .tail _ (.tail _ (.tail _ (.head _)))) (by assumption) ?_ | refine c_block ?_ | refine c_skip ?_ | refine k_blk ?_ | (refine c_cond_p (by exact rfl) (fun h => ?_) (fun h => ?_) <;> try (exfalso; omega))
          refine c_round (u + 1, vc) [0, 0, 0, 0, 0] (by dsimp only; rw [hrn]; rfl) (by exact ⟨rfl, rfl, rfl, rfl, rfl, rfl, trivial⟩) (by dsimp only; omega) (by dsimp only; omega)
      · repeat' first
          | refine k_then ?_ | refine c_seq ?_ | refine c_region ?_ | refine s_nil ?_ | refine s_move (by exact rfl) (by exact rfl) ?_ | refine s_fa (by exact rfl) (by exact rfl) ?_ | refine s_ld_box (by exact rfl) (by exact rfl) (by exact .tail _ (.tail _ (.tail _ (.tail _ (.head _))))) (by exact rfl) ?_ | refine s_lss (by exact rfl) (by exact rfl) (by exact rfl) ?_ | refine c_exit ?_ | refine k_then_exit ?_ | refine k_blk_eq ?_ | (refine c_cond_p (by exact rfl) (fun h => ?_) (fun h => ?_) <;> try (exfalso; omega))
        obtain rfl : u = N := by omega
        refine know_row (v := vc) (.head _) fun hvc _ => ?_
        refine o_mk [vc] (by exact rfl) (by exact rfl) rfl ?_ ?_ (by simp) fun vt hvt => ?_
        · intro u hu
          obtain rfl : u = vc := by simpa using hu
          rw [← Array.length_toList, one_cells hvc.one]; rfl
        · simp
        rw [show ([vc].flatMap fun u => u.cells.toList) = [vc] from by simp [one_cells hvc.one]]
        skip
        refine o_append_row (i := 2) (by exact rfl) (by exact rfl) (by exact rfl) (by exact rfl) (by exact .head _) (by exact rfl) (by simp [hvc.one]) ?_ fun vo2 hvo2 => ?_
        · omega
        repeat' first
          | refine k_then ?_ | refine c_region ?_ | refine s_nil ?_ | refine s_move (by exact rfl) (by exact rfl) ?_ | refine s_assign (by exact rfl) (by exact rfl) ?_ | refine s_add (by exact rfl) (by exact rfl) (by exact rfl) (by omega) ?_ | refine k_blk ?_
        have e1 : rowHP vc 3 1 ((List.range u).filter fun x => lab x == i).length (nV ((List.range u).filter fun x => lab x == i)) = rowN vc ((List.range u).filter fun x => lab x == i) := rfl
        refine c_pick [1, 1, 1, 1, 1] (by exact rfl) ?_
        rw [e1]
        refine c_pushk 1 (by exact rfl) ?_
        refine c_round (i + 1, vo2, ho ++ [vc]) [0, 0, 0, 0] ?_ (by exact ⟨rfl, rfl, rfl, rfl, trivial⟩) ⟨by dsimp only; omega, by dsimp only; rw [hadd, List.length_append, List.length_append, hho]; rfl⟩ (by dsimp only; omega)
        dsimp only
        rw [hadd, kids_append hho, List.length_append]
        rfl
    · have hnx := compsI_next (N := N) hlab
      repeat' first
        | refine k_then ?_ | refine c_seq ?_ | refine c_region ?_ | refine s_nil ?_ | refine s_move (by exact rfl) (by exact rfl) ?_ | refine s_assign (by exact rfl) (by exact rfl) ?_ | refine s_fa (by exact rfl) (by exact rfl) ?_ | refine s_ld_box (by exact rfl) (by exact rfl) (by exact .tail _ (.tail _ (.tail _ (.head _)))) (by exact rfl) ?_ | refine s_lss (by exact rfl) (by exact rfl) (by exact rfl) ?_ | refine s_neq (by exact rfl) (by exact rfl) (by exact rfl) ?_ | refine s_add (by exact rfl) (by exact rfl) (by exact rfl) (by omega) ?_ | refine s_idx (by exact rfl) (by exact rfl) (by exact rfl) (by assumption) (by first | assumption | omega) ?_ | refine s_ld_row (by exact rfl) (by exact rfl) (by exact .tail _ (.tail _ (.head _))) (by assumption) ?_ | refine c_block ?_ | refine c_skip ?_ | refine c_exit ?_ | refine k_then_exit ?_ | refine k_blk_eq ?_ | (refine c_cond_p (by exact rfl) (fun h => ?_) (fun h => ?_) <;> try (exfalso; omega))
      refine c_round (i + 1, vo, ho) [0, 0, 0, 0] (by dsimp only; rw [hnx]; rfl) (by exact ⟨rfl, rfl, rfl, rfl, trivial⟩) ⟨by omega, by dsimp only; rw [hnx]; exact hho⟩ (by dsimp only; omega)
  · repeat' first
      | refine k_then ?_ | refine c_seq ?_ | refine c_region ?_ | refine s_nil ?_ | refine s_move (by exact rfl) (by exact rfl) ?_ | refine s_assign (by exact rfl) (by exact rfl) ?_ | refine s_fa (by exact rfl) (by exact rfl) ?_ | refine s_ld_box (by exact rfl) (by exact rfl) (by exact .tail _ (.tail _ (.tail _ (.head _)))) (by exact rfl) ?_ | refine s_lss (by exact rfl) (by exact rfl) (by exact rfl) ?_ | refine c_exit ?_ | refine c_ret ?_ | refine k_then_exit ?_ | refine k_blk_eq ?_ | (refine c_cond_p (by exact rfl) (fun h => ?_) (fun h => ?_) <;> try (exfalso; omega))
    obtain rfl : i = N := by omega
    refine ret1 [0, 0] rfl rfl rfl ⟨ho, hho, rfl⟩
end Go.Proofs.YtpajjnkmaebhcaaGreat
end
section
set_option linter.unusedVariables false
namespace Fil
/-- as the document says it: as many, and each neighbour among them -/
theorem rotB_iff {n : Int} {es : List E} {ls : List (List Int)} (hR : RightG n es) (v : Nat) : rotB n es ls v = true ↔ (ls.getD v []).length = (nearS (tn es) v).length ∧ ∀ u ∈ nearS (tn es) v, (u : Int) ∈ ls.getD v [] := by
  have hnd : (nearS (tn es) v).Nodup := (List.mergeSort_perm _ _).nodup_iff.2 (nb_nd hR.good (tn_nodup hR) v)
  have hnd2 : ((nearS (tn es) v).map fun (k : Nat) => (k : Int)).Nodup := by
    rw [List.Nodup, List.pairwise_map]
    exact hnd.imp fun h e => h (by omega)
  rw [rotB, decide_eq_true_iff]
  generalize ls.getD v [] = l
  constructor
  · intro h
    have hp := List.mergeSort_perm l fun x y => decide (x ≤ y)
    rw [h] at hp
    refine ⟨by simpa using hp.length_eq.symm, fun u hu => hp.mem_iff.1 (List.mem_map.2 ⟨u, hu, rfl⟩)⟩
  · rintro ⟨h1, h2⟩
    have hp : ((nearS (tn es) v).map fun (k : Nat) => (k : Int)).Perm l := perm_of_sub hnd2 (fun a ha => by
      obtain ⟨u, hu, rfl⟩ := List.mem_map.1 ha
      exact h2 u hu) (by simp [h1])
    have hq := (List.mergeSort_perm l fun x y => decide (x ≤ y)).trans hp.symm
    have s1 : (l.mergeSort fun x y => decide (x ≤ y)).Pairwise fun a b => a ≤ b :=
      (List.pairwise_mergeSort (fun a b c h1 h2 => by simp at *; omega) (fun a b => by simp; omega) l).imp fun h => by simpa using h
    have s2 : ((nearS (tn es) v).map fun (k : Nat) => (k : Int)).Pairwise fun a b => a ≤ b := by
      rw [List.pairwise_map]
      exact (List.pairwise_mergeSort (fun a b c h1 h2 => by simp at *; omega) (fun a b => by simp; omega) (nb (tn es) v)).imp fun h => by simp at h; omega
    exact hq.eq_of_pairwise (fun a b _ _ h1 h2 => by omega) s1 s2
end Fil
namespace Go.Proofs.YtpajjnkmaebhcaaGreat
open Go.RowKit Go.Sl Fil
set_option maxRecDepth 100000
set_option maxHeartbeats 8000000
set_option linter.unusedVariables false
set_option linter.unusedSimpArgs false
attribute [local irreducible] Code.wp wpList bodyPost wpQuiet Exit.then Exit.inBlock Post wpAnyH wpOp
theorem refRotRight_ok (n : Int) (v : Value) (es : List E) (vr : Value) (hr0 : List Value) (ls : List (List Int)) (w : World) (hs : Shp v es.length) (hr : RO w No v (esV es)) (hm : es.length < 4611686018427387904) (hR : ROsI w No vr hr0 ls) :
    Calls Tryz.prog 22 #[.agg #[.int .i64 n, v], vr] w (Post w No (Just (.int .i64 (rotK n es ls)))) := by
  have hsr := hR.shp
  have hrr := hR.ro
  have hls := hsr.1
  simp only [maxLen] at hls
  refine enter0 (vs := [_, _]) Tryz.func22 rfl Tryz.ntmps22 rfl ?_
  repeat' first
    | refine k_then ?_ | refine c_seq ?_ | refine c_region ?_ | refine s_nil ?_ | refine s_assign (by exact rfl) (by exact rfl) ?_ | refine s_ldk_box (by exact rfl) (by exact rfl) (by exact .head _) (by exact rfl) (by exact rfl) ?_ | refine o_box (by exact rfl) (by exact rfl) (fun b => ?_)
  refine s_call (by exact rfl) (by exact rfl) (fun w h => refRight_ok n v es w hs (ro_old h hr) hm) ?_
  repeat' first
    | refine k_then ?_ | refine c_seq ?_ | refine c_region ?_ | refine s_nil ?_ | refine s_move (by exact rfl) (by exact rfl) ?_ | refine s_assign (by exact rfl) (by exact rfl) ?_ | refine s_fa (by exact rfl) (by exact rfl) ?_ | refine s_ld_box (by exact rfl) (by exact rfl) (by exact .head _) (by exact rfl) ?_ | refine s_neq (by exact rfl) (by exact rfl) (by exact rfl) ?_ | refine s_len (by exact rfl) (by exact rfl) (by assumption) ?_ | refine s_ldk_box (by exact rfl) (by exact rfl) (by exact .head _) (by exact rfl) (by exact rfl) ?_ | refine c_skip ?_ | refine c_ret ?_ | refine k_then_ret ?_ | (refine c_cond_p (by exact rfl) (fun h => ?_) (fun h => ?_) <;> try (exfalso; omega))
  · refine ret1 [] rfl rfl rfl ⟨?_, rfl⟩
    rw [rotK, if_pos h]
  · rename_i h0
    have h1 := h
    refine ret1 [] rfl rfl rfl ⟨?_, rfl⟩
    rw [rotK, if_neg h0, if_pos h1]
  rename_i h0
  have h1 := h
  have hRG := right_iff.1 (Classical.byContradiction h0)
  have hln : ls.length = n.toNat := by have := hRG.lo; omega
  refine o_call (by exact rfl) (by exact rfl) (fun w h => refNear_ok n v es w hs (ro_old h hr) hRG) ?_
  rintro vn _ ⟨hn, hnl, rfl⟩
  refine know_row (v := vn) (.head _) fun hvn _ => ?_
  repeat' first
    | refine k_then ?_ | refine c_seq ?_ | refine c_region ?_ | refine s_nil ?_ | refine s_assign (by exact rfl) (by exact rfl) ?_ | refine c_block ?_
  have hlo := hRG.lo
  have hhi := hRG.hi
  have hAl : ∀ x, (nearS (tn es) x).length ≤ 4194304 := fun x => by
    have h1 := nb_length (tn es) x
    have h2 := hRG.many
    simp only [nearS, List.length_mergeSort]
    simp only [tn, List.length_map] at h1
    simp only [tn]
    omega
  have hrotK : rotK n es ls = if (List.range n.toNat).all (rotB n es ls) then 0 else 12 := by rw [rotK, if_neg h0, if_neg h1]
  rw [hrotK]
  have hBd : ∀ x, rotB n es ls x = true ↔ (ls.getD x []).length = (nearS (tn es) x).length ∧ ∀ u ∈ nearS (tn es) x, (u : Int) ∈ ls.getD x [] := rotB_iff hRG
  generalize rotB n es ls = B at *
  generalize nearS (tn es) = A at *
  clear hrotK h1 h h0
  generalize hN : n.toNat = N at *
  have hnN : n = (N : Int) := by omega
  subst hnN
  have hbad : ∀ k, k < N → ¬ B k = true → (if (List.range N).all B then (0 : Int) else 12) = 12 := fun k hk hb => by
    rw [if_neg]
    intro hall
    exact hb (List.all_eq_true.1 hall k (List.mem_range.2 hk))
  refine c_loop (fun k : Nat => k ≤ N ∧ ∀ u, u < k → B u = true) (fun k => [(1, vr), (2, .pointer (some ⟨b, 0, none⟩)), (5, vn), (6, .int .i64 (k : Int))]) (fun _ => [rowHP vn 41 1 N hn, starHP (kids rowN hn ((List.range N).map A)), boxHP b 24 (Value.agg #[.int .i64 (N : Int), v]).cells.toList]) (fun k => N - k) 0 [0, 0, 0] ⟨Nat.zero_le _, by omega⟩ rfl ⟨rfl, rfl, rfl, rfl, trivial⟩ ?_
  rintro k ⟨hk, hq⟩
  by_cases hlt : k < N
  · obtain ⟨hx, hhx⟩ : ∃ x, hr0[k]? = some x := ⟨_, List.getElem?_eq_getElem (by have := hR.len; omega)⟩
    obtain ⟨l, hl⟩ : ∃ l, ls[k]? = some l := ⟨_, List.getElem?_eq_getElem (by omega)⟩
    obtain ⟨hsx, hrx⟩ := hR.kid k hx l hhx hl
    obtain ⟨hy, hhy⟩ : ∃ x, hn[k]? = some x := ⟨_, List.getElem?_eq_getElem (by omega)⟩
    have hAk : ((List.range N).map A)[k]? = some (A k) := by simp [hlt]
    have hgd : ls.getD k [] = l := by rw [List.getD_eq_getElem?_getD, hl]; rfl
    have h1' : hr0[k * 1]? = some hx := by rw [Nat.mul_one]; exact hhx
    have h2' : hn[k * 1]? = some hy := by rw [Nat.mul_one]; exact hhy
    have hAlk := hAl k
    have hros : ∀ w1, St w No [rowHP vn 41 1 N hn, starHP (kids rowN hn ((List.range N).map A)), boxHP b 24 (Value.agg #[.int .i64 (N : Int), v]).cells.toList] w1 → ROs w1 No vn hn ((List.range N).map A) := fun w1 h => ros_own h (.head _) (by simp) (.tail _ (.head _))
    have hkk : rowHP hy 3 1 (A k).length (nV (A k)) ∈ kids rowN hn ((List.range N).map A) := kids_mem (f := rowN) hhy hAk
    repeat' first
      | refine k_then ?_ | refine c_seq ?_ | refine c_region ?_ | refine s_nil ?_ | refine s_move (by exact rfl) (by exact rfl) ?_ | refine s_fa (by exact rfl) (by exact rfl) ?_ | refine s_ld_box (by exact rfl) (by exact rfl) (by exact .tail _ (.tail _ (.head _))) (by exact rfl) ?_ | refine s_lss (by exact rfl) (by exact rfl) (by exact rfl) ?_ | refine c_block ?_ | refine c_skip ?_ | (refine c_cond_p (by exact rfl) (fun h => ?_) (fun h => ?_) <;> try (exfalso; omega))
    refine know_kid (.tail _ (.head _)) hkk fun hsy _ => ?_
    refine p_begin0 [(0, true), (1, true), (2, true), (3, true), (4, true), (5, true), (6, true), (7, true), (8, true), (9, true), (10, true)] (by kernel_rfl) ?_
    repeat' first
      | refine p_nil ?_
      | (refine p_at (by exact rfl) ?_
         first
          | refine t_move (by exact rfl) (by exact rfl) (by exact fun _ h => h) ?_ | refine t_neq (by exact rfl) (by exact rfl) (by exact rfl) (by exact fun _ h => h) ?_ | refine t_len (by exact rfl) (by exact rfl) (by assumption) (by exact fun _ h => h) ?_ | refine t_idx (by exact rfl) (by exact rfl) (by exact rfl) (by assumption) (by first | assumption | omega) (by exact fun _ h => h) ?_ | refine t_ld_ro (by exact rfl) (by exact rfl) (by assumption) (by assumption) (by exact fun _ h => h) ?_ | refine t_ld_row (by exact rfl) (by exact rfl) (by exact .head _) (by assumption) (by exact fun _ h => h) ?_)
    have hBk := hBd k
    rw [hgd] at hBk
    repeat' first
      | refine k_then ?_ | refine c_seq ?_ | refine c_region ?_ | refine s_nil ?_ | refine s_assign (by exact rfl) (by exact rfl) ?_ | refine c_block ?_ | refine c_skip ?_ | refine c_ret ?_ | refine k_then_ret ?_ | refine k_blk_ret ?_ | (refine c_cond_p (by exact rfl) (fun h => ?_) (fun h => ?_) <;> try (exfalso; omega))
    · refine ret1 [] rfl rfl rfl ⟨?_, rfl⟩
      rw [hbad k hlt fun hb => by have := (hBk.1 hb).1; omega]
    refine c_loop (fun j : Nat => j ≤ (A k).length ∧ ∀ u ∈ (A k).take j, (u : Int) ∈ l) (fun j => [(1, vr), (2, .pointer (some ⟨b, 0, none⟩)), (5, vn), (6, .int .i64 (k : Int)), (7, .int .i64 (j : Int))]) (fun _ => [rowHP vn 41 1 N hn, starHP (kids rowN hn ((List.range N).map A)), boxHP b 24 (Value.agg #[.int .i64 (N : Int), v]).cells.toList]) (fun j => (A k).length - j) 0 [0, 0, 0] ⟨Nat.zero_le _, by simp⟩ rfl ⟨rfl, rfl, rfl, rfl, rfl, trivial⟩ ?_
    rintro j ⟨hj, hjq⟩
    by_cases hjl : j < (A k).length
    · have h3' := nV_get hjl
      repeat' first
        | refine k_then ?_ | refine c_seq ?_ | refine c_region ?_ | refine s_nil ?_ | refine s_move (by exact rfl) (by exact rfl) ?_ | refine s_lss (by exact rfl) (by exact rfl) (by exact rfl) ?_ | refine s_len (by exact rfl) (by exact rfl) (by assumption) ?_ | refine s_idx (by exact rfl) (by exact rfl) (by exact rfl) (by assumption) (by first | assumption | omega) ?_ | refine s_ld_row (by exact rfl) (by exact rfl) (by exact .head _) (by assumption) ?_ | refine c_block ?_ | refine c_skip ?_ | (refine c_cond_p (by exact rfl) (fun h => ?_) (fun h => ?_) <;> try (exfalso; omega))
      refine p_begin0 [(0, true), (1, true), (2, true), (3, true), (4, true), (5, true), (6, true), (7, true), (8, true), (9, true), (10, true), (11, false), (12, true)] (by kernel_rfl) ?_
      repeat' first
        | (refine p_at (by exact rfl) ?_
           first
            | refine t_move (by exact rfl) (by exact rfl) (by exact fun _ h => h) ?_ | refine t_idx (by exact rfl) (by exact rfl) (by exact rfl) (by assumption) (by first | assumption | omega) (by exact fun _ h => h) ?_ | refine t_ld_ro (by exact rfl) (by exact rfl) (by assumption) (by assumption) (by exact fun _ h => h) ?_ | refine t_ld_row (by exact rfl) (by exact rfl) (by exact .head _) (by assumption) (by exact fun _ h => h) ?_ | refine t_ld_kid (by exact rfl) (by exact rfl) (by assumption) (by exact .tail _ (.head _)) (by assumption) (by exact fun _ h => h) ?_)
      refine p_call (gd := none) (by exact rfl) rfl (by exact rfl) (fun w h => Has_ok hx l ((A k).getD j 0 : Nat) w hsx (ro_old h hrx)) (by exact fun _ h => h) ?_
      have hgj : (A k)[j]? = some ((A k).getD j 0) := by rw [List.getD_eq_getElem?_getD, List.getElem?_eq_getElem hjl]; rfl
      by_cases hin : ((A k).getD j 0 : Int) ∈ l
      · rw [decide_eq_true hin]
        repeat' first
          | refine p_nil ?_
          | (refine p_at (by exact rfl) ?_
             first
              | refine t_not (by exact rfl) (by exact rfl) (by exact fun _ h => h) ?_)
        repeat' first
          | refine k_then ?_ | refine c_region ?_ | refine s_nil ?_ | refine s_move (by exact rfl) (by exact rfl) ?_ | refine s_assign (by exact rfl) (by exact rfl) ?_ | refine s_add (by exact rfl) (by exact rfl) (by exact rfl) (by omega) ?_ | refine c_skip ?_ | refine k_blk ?_ | refine c_cond_f (by exact rfl) ?_
        refine c_round (j + 1) [0, 0, 0] (by exact rfl) (by exact ⟨rfl, rfl, rfl, rfl, rfl, trivial⟩) ⟨by omega, fun u hu => ?_⟩ (by omega)
        rw [List.take_add_one, hgj] at hu
        rcases List.mem_append.1 hu with hu | hu
        · exact hjq u hu
        · obtain rfl : u = (A k).getD j 0 := by simpa using hu
          exact hin
      · rw [decide_eq_false hin]
        repeat' first
          | refine p_nil ?_
          | (refine p_at (by exact rfl) ?_
             first
              | refine t_not (by exact rfl) (by exact rfl) (by exact fun _ h => h) ?_)
        repeat' first
          | refine k_then ?_ | refine c_seq ?_ | refine c_region ?_ | refine s_nil ?_ | refine s_assign (by exact rfl) (by exact rfl) ?_ | refine c_ret ?_ | refine k_then_ret ?_ | refine k_blk_ret ?_ | refine c_cond_t (by exact rfl) ?_
        refine ret1 [] rfl rfl rfl ⟨?_, rfl⟩
        rw [hbad k hlt fun hb => hin ((hBk.1 hb).2 _ (List.mem_of_getElem? hgj))]
    · repeat' first
        | refine k_then ?_ | refine c_seq ?_ | refine c_region ?_ | refine s_nil ?_ | refine s_move (by exact rfl) (by exact rfl) ?_ | refine s_assign (by exact rfl) (by exact rfl) ?_ | refine s_lss (by exact rfl) (by exact rfl) (by exact rfl) ?_ | refine s_add (by exact rfl) (by exact rfl) (by exact rfl) (by omega) ?_ | refine s_len (by exact rfl) (by exact rfl) (by assumption) ?_ | refine s_idx (by exact rfl) (by exact rfl) (by exact rfl) (by assumption) (by first | assumption | omega) ?_ | refine s_ld_row (by exact rfl) (by exact rfl) (by exact .head _) (by assumption) ?_ | refine c_exit ?_ | refine k_then_exit ?_ | refine k_blk ?_ | refine k_blk_eq ?_ | (refine c_cond_p (by exact rfl) (fun h => ?_) (fun h => ?_) <;> try (exfalso; omega))
      rw [List.take_of_length_le (by omega)] at hjq
      refine c_round (k + 1) [0, 0, 0] (by exact rfl) (by exact ⟨rfl, rfl, rfl, rfl, trivial⟩) ⟨by omega, fun u hu => ?_⟩ (by omega)
      by_cases e : u = k
      · rw [e]; exact hBk.2 ⟨by omega, hjq⟩
      · exact hq u (by omega)
  · repeat' first
      | refine k_then ?_ | refine c_seq ?_ | refine c_region ?_ | refine s_nil ?_ | refine s_move (by exact rfl) (by exact rfl) ?_ | refine s_assign (by exact rfl) (by exact rfl) ?_ | refine s_fa (by exact rfl) (by exact rfl) ?_ | refine s_ld_box (by exact rfl) (by exact rfl) (by exact .tail _ (.tail _ (.head _))) (by exact rfl) ?_ | refine s_lss (by exact rfl) (by exact rfl) (by exact rfl) ?_ | refine c_exit ?_ | refine c_ret ?_ | refine k_then_exit ?_ | refine k_blk_eq ?_ | (refine c_cond_p (by exact rfl) (fun h => ?_) (fun h => ?_) <;> try (exfalso; omega))
    refine ret1 [] rfl rfl rfl ⟨?_, rfl⟩
    rw [if_pos]
    rw [List.all_eq_true]
    intro u hu
    exact hq u (by have := List.mem_range.1 hu; omega)
end Go.Proofs.YtpajjnkmaebhcaaGreat
end
section
set_option linter.unusedVariables false
namespace Go.Proofs.YtpajjnkmaebhcaaGreat
open Go Go.RowKit Go.Sl Fil
set_option maxRecDepth 100000
set_option maxHeartbeats 8000000
set_option linter.unusedVariables false
set_option linter.unusedSimpArgs false
attribute [local irreducible] Code.wp wpList bodyPost wpQuiet Exit.then Exit.inBlock Post wpAnyH wpOp
theorem HasI_ok (v : Value) (l : List Nat) (i : Int) (w : World) (hi : i = (i.toNat : Int)) (hs : Shp v l.length) (hr : RO w No v (nV l)) :
    Calls Tryz.prog 41 #[v, .int .i64 i] w (Post w No (Just (.bool (decide (i.toNat ∈ l))))) := by
  have h := HasN_ok v l i.toNat w hs hr
  rwa [← hi] at h
theorem refEuler_ok (n : Int) (v : Value) (es : List E) (vr : Value) (hr0 : List Value) (R : List (List Nat)) (o lab : Nat → Nat) (w : World) (hs : Shp v es.length) (hr : RO w No v (esV es)) (hG : RightG n es) (hR : ROs w No vr hr0 R) (hRot : RotL n.toNat (tn es) R) (hL : Lev n.toNat (nb (tn es)) o lab) :
    Calls Tryz.prog 23 #[.agg #[.int .i64 n, v], vr] w (Post w No fun r L' => L' = [rowHP r 3 1 (eulerL n.toNat (tn es) lab (facesR n.toNat (tn es) R)).length (iV (eulerL n.toNat (tn es) lab (facesR n.toNat (tn es) R)))]) := by
  have hsr := hR.shp
  have hrr := hR.ro
  have hlo := hG.lo
  have hhi := hG.hi
  have hmany := hG.many
  refine enter0 (vs := [_, _]) Tryz.func23 rfl Tryz.ntmps23 rfl ?_
  repeat' first
    | refine k_then ?_ | refine c_seq ?_ | refine c_region ?_ | refine s_nil ?_ | refine s_assign (by exact rfl) (by exact rfl) ?_ | refine s_ldk_box (by exact rfl) (by exact rfl) (by exact .head _) (by exact rfl) (by exact rfl) ?_ | refine o_box (by exact rfl) (by exact rfl) (fun b => ?_)
  revert b; intro bg
  refine o_call (by exact rfl) (by exact rfl) (fun w h => refComps_ok n v es o lab w hs (ro_old h hr) hG hL) ?_
  rintro vc _ ⟨hc, hcl, rfl⟩
  refine know_row (v := vc) (.head _) fun hvc _ => ?_
  repeat' first
    | refine k_then ?_ | refine c_seq ?_ | refine c_region ?_ | refine s_nil ?_ | refine s_move (by exact rfl) (by exact rfl) ?_ | refine s_assign (by exact rfl) (by exact rfl) ?_ | refine s_ldk_box (by exact rfl) (by exact rfl) (by exact .tail _ (.tail _ (.head _))) (by exact rfl) (by exact rfl) ?_
  refine o_call (by exact rfl) (by exact rfl) (fun w h => refFaces_ok n v es vr hr0 R w hs (ro_old h hr) hG (ros_old h hR) hRot) ?_
  rintro vf _ ⟨hf, hfl, rfl⟩
  refine know_row (v := vf) (.head _) fun hvf _ => ?_
  have hcN : (compsS n.toNat lab).length ≤ n.toNat := compsI_length _ _ lab
  have hdec := facesR_dec hG hRot
  have hFne : ∀ f ∈ facesR n.toNat (tn es) R, ∃ d t, f = d :: t ∧ d.1 < n.toNat := fun f hf => by
    cases f with
    | nil => exact absurd rfl (hdec.cy _ hf).1
    | cons d t => exact ⟨d, t, rfl, (dart_lt hG (hdec.perm.mem_iff.1 (List.mem_flatten.2 ⟨_, hf, .head _⟩))).1⟩
  have hFl : (facesR n.toNat (tn es) R).length ≤ 2 * es.length := by
    have h1 := flat_le (C := facesR n.toNat (tn es) R) fun f hf => (hdec.cy f hf).1
    have h2 := hdec.perm.length_eq
    rw [dartsAll_length hG] at h2
    omega
  have hcl2 : ∀ c ∈ compsS n.toNat lab, c.length ≤ n.toNat := fun c hc => by
    obtain ⟨r, h1, h2, rfl⟩ := comp_mem hc
    have := List.length_filter_le (fun u => lab u == r) (List.range n.toNat); simpa using this
  have hK : ∀ c ∈ compsS n.toNat lab, eulerK (tn es) (facesR n.toNat (tn es) R) c = (c.length : Int) - (((tn es).filter fun e => decide (e.1 ∈ c)).length : Int) + (((facesR n.toNat (tn es) R).filter fun f => decide ((f.headD (0, 0)).1 ∈ c)).length : Int) + if ((tn es).filter fun e => decide (e.1 ∈ c)).length = 0 then 1 else 0 := fun c hc => by
    rw [eulerK]
    by_cases h1 : c.length = 1
    · rw [if_pos h1, (single hG hRot hL hc h1).2, h1]
      simp; omega
    · rw [if_neg h1, if_neg fun h => edge_of hG hRot hL hc h1 (List.eq_nil_of_length_eq_zero h)]
      omega
  have hfe : ∀ (c : List Nat) (k : Nat), ((((tn es).take k).filter fun e => decide (e.1 ∈ c)).length) ≤ k := fun c k => by
    have := List.length_filter_le (fun e : Nat × Nat => decide (e.1 ∈ c)) ((tn es).take k)
    rw [List.length_take] at this; omega
  have hff : ∀ (c : List Nat) (k : Nat), ((((facesR n.toNat (tn es) R).take k).filter fun f => decide ((f.headD (0, 0)).1 ∈ c)).length) ≤ k := fun c k => by
    have := List.length_filter_le (fun f : List (Nat × Nat) => decide ((f.headD (0, 0)).1 ∈ c)) ((facesR n.toNat (tn es) R).take k)
    rw [List.length_take] at this; omega
  unfold eulerL
  generalize facesR n.toNat (tn es) R = Fs at *
  generalize compsS n.toNat lab = cs at *
  rw [List.length_map]
  refine c_nil 3 1 ?_
  repeat' first
    | refine k_then ?_ | refine c_seq ?_ | refine c_region ?_ | refine s_nil ?_ | refine s_assign (by exact rfl) (by exact rfl) ?_ | refine c_block ?_
  refine c_loop (fun x : Nat × Value => x.1 ≤ cs.length) (fun x => [(1, vr), (2, .pointer (some ⟨bg, 0, none⟩)), (5, vc), (6, vf), (7, x.2), (8, .int .i64 (x.1 : Int))])
    (fun x => [rowHP x.2 3 1 x.1 (iV ((cs.take x.1).map (eulerK (tn es) Fs))), rowHP vf 77 1 Fs.length hf, starHP (kids rowD hf Fs), rowHP vc 41 1 cs.length hc, starHP (kids rowN hc cs), boxHP bg 24 [.int .i64 n, v]])
    (fun x => cs.length - x.1) (0, .slice none 0 0) [0, 0, 0, 0, 0, 0] (Nat.zero_le _) (by exact rfl) ⟨rfl, rfl, rfl, rfl, rfl, rfl, trivial⟩ ?_
  rintro ⟨i, vo⟩ hi
  dsimp only at hi ⊢
  by_cases hil : i < cs.length
  · obtain ⟨c, hci⟩ : ∃ c, cs[i]? = some c := ⟨_, List.getElem?_eq_getElem hil⟩
    obtain ⟨hd, hhd⟩ : ∃ hd, hc[i]? = some hd := ⟨_, List.getElem?_eq_getElem (by omega)⟩
    have hhd1 : hc[i * 1]? = some hd := by rw [Nat.mul_one]; exact hhd
    have hcm := List.mem_of_getElem? hci
    have hcl3 := hcl2 c hcm
    have hKc := hK c hcm
    have hfec := hfe c
    have hffc := hff c
    have hkd : rowHP hd 3 1 c.length (nV c) ∈ kids rowN hc cs := kids_mem (f := rowN) hhd hci
    repeat' first
      | refine k_then ?_ | refine c_seq ?_ | refine c_region ?_ | refine s_nil ?_ | refine s_move (by exact rfl) (by exact rfl) ?_ | refine s_lss (by exact rfl) (by exact rfl) (by exact rfl) ?_ | refine s_len (by exact rfl) (by exact rfl) (by assumption) ?_ | refine s_idx (by exact rfl) (by exact rfl) (by exact rfl) (by assumption) (by first | assumption | omega) ?_ | refine s_ld_row (by exact rfl) (by exact rfl) (by exact .tail _ (.tail _ (.tail _ (.head _)))) (by assumption) ?_ | refine c_block ?_ | refine c_skip ?_ | (refine c_cond_p (by exact rfl) (fun h => ?_) (fun h => ?_) <;> try (exfalso; omega))
    refine know_kid (by exact .tail _ (.tail _ (.tail _ (.tail _ (.head _))))) hkd fun hsd _ => ?_
    repeat' first
      | refine k_then ?_ | refine c_seq ?_ | refine c_region ?_ | refine s_nil ?_ | refine s_assign (by exact rfl) (by exact rfl) ?_ | refine s_len (by exact rfl) (by exact rfl) (by assumption) ?_ | refine c_block ?_
    refine c_loop (fun k : Nat => k ≤ es.length) (fun k => [(1, vr), (2, .pointer (some ⟨bg, 0, none⟩)), (5, vc), (6, vf), (7, vo), (8, .int .i64 (i : Int)), (9, .int .i64 (c.length : Int)), (10, .int .i64 (((((tn es).take k).filter fun e => decide (e.1 ∈ c)).length : Nat) : Int)), (11, .int .i64 (k : Int))])
      (fun k => [rowHP vo 3 1 i (iV ((cs.take i).map (eulerK (tn es) Fs))), rowHP vf 77 1 Fs.length hf, starHP (kids rowD hf Fs), rowHP vc 41 1 cs.length hc, starHP (kids rowN hc cs), boxHP bg 24 [.int .i64 n, v]])
      (fun k => es.length - k) 0 [0, 0, 0, 0, 0, 0] (Nat.zero_le _) (by exact rfl) ⟨rfl, rfl, rfl, rfl, rfl, rfl, rfl, rfl, rfl, trivial⟩ ?_
    rintro k hk
    have hfk := hfec k
    by_cases hkl : k < es.length
    · obtain ⟨e, he⟩ : ∃ e, es[k]? = some e := ⟨_, List.getElem?_eq_getElem hkl⟩
      obtain ⟨o1, o2, o3, o4, _⟩ := hG.ok e (List.mem_of_getElem? he)
      have het : (tn es)[k]? = some (e.1.toNat, e.2.1.toNat) := by rw [tn, List.getElem?_map, he]; rfl
      have hcnt := fcount (fun e : Nat × Nat => decide (e.1 ∈ c)) het
      have hE0 : (esV es)[k * 3 + 0]? = some (.int .i64 e.1) := (esV_get he).1
      repeat' first
        | refine k_then ?_ | refine c_seq ?_ | refine c_region ?_ | refine s_nil ?_ | refine s_move (by exact rfl) (by exact rfl) ?_ | refine s_fa (by exact rfl) (by exact rfl) ?_ | refine s_ld_box (by exact rfl) (by exact rfl) (by exact .tail _ (.tail _ (.tail _ (.tail _ (.tail _ (.head _)))))) (by exact rfl) ?_ | refine s_lss (by exact rfl) (by exact rfl) (by exact rfl) ?_ | refine s_len (by exact rfl) (by exact rfl) (by assumption) ?_ | refine c_block ?_ | refine c_skip ?_ | (refine c_cond_p (by exact rfl) (fun h => ?_) (fun h => ?_) <;> try (exfalso; omega))
      refine p_begin0 [(0, true), (1, true), (2, true), (3, true), (4, true), (5, true), (6, true), (7, true), (8, true), (9, true), (10, false)] (by kernel_rfl) ?_
      repeat' first
        | (refine p_at (by exact rfl) ?_
           first
            | refine t_move (by exact rfl) (by exact rfl) (by exact fun _ h => h) ?_ | refine t_fa (by exact rfl) (by exact rfl) (by exact fun _ h => h) ?_ | refine t_ld_box (by exact rfl) (by exact rfl) (by exact .tail _ (.tail _ (.tail _ (.tail _ (.tail _ (.head _)))))) (by exact rfl) (by exact fun _ h => h) ?_ | refine t_idx (by exact rfl) (by exact rfl) (by exact rfl) (by assumption) (by first | assumption | omega) (by exact fun _ h => h) ?_ | refine t_fap (by exact rfl) (by exact rfl) (by assumption) (by omega) (by exact fun _ h => h) ?_ | refine t_ld_ro (by exact rfl) (by exact rfl) (by assumption) (by assumption) (by exact fun _ h => h) ?_ | refine t_ld_row (by exact rfl) (by exact rfl) (by exact .tail _ (.tail _ (.tail _ (.head _)))) (by assumption) (by exact fun _ h => h) ?_)
      refine p_call (gd := none) (by exact rfl) rfl (by exact rfl) (fun w h => HasI_ok hd c e.1 w (by omega) hsd (ro_kid h (by exact .tail _ (.tail _ (.tail _ (.tail _ (.head _))))) hkd)) (by exact fun _ h => h) ?_
      by_cases hin : e.1.toNat ∈ c
      · rw [decide_eq_true hin]
        rw [if_pos (decide_eq_true hin)] at hcnt
        have hc1 : (((((tn es).take (k + 1)).filter fun e => decide (e.1 ∈ c)).length : Nat) : Int) = (((((tn es).take k).filter fun e => decide (e.1 ∈ c)).length : Nat) : Int) + 1 := by rw [hcnt]; rfl
        repeat' first
          | refine p_nil ?_
        repeat' first
          | refine k_then ?_ | refine c_region ?_ | refine s_nil ?_ | refine s_move (by exact rfl) (by exact rfl) ?_ | refine s_assign (by exact rfl) (by exact rfl) ?_ | refine s_add (by exact rfl) (by exact rfl) (by exact rfl) (by omega) ?_ | refine k_blk ?_ | refine c_cond_t (by exact rfl) ?_
        refine c_round (k + 1) [0, 0, 0, 0, 0, 0] (by exact rfl) (by rw [hc1]; exact ⟨rfl, rfl, rfl, rfl, rfl, rfl, rfl, rfl, rfl, trivial⟩) (by omega) (by omega)
      · rw [decide_eq_false hin]
        rw [if_neg (by simpa using hin)] at hcnt
        have hc1 : ((((tn es).take (k + 1)).filter fun e => decide (e.1 ∈ c)).length) = ((((tn es).take k).filter fun e => decide (e.1 ∈ c)).length) := hcnt
        repeat' first
          | refine p_nil ?_
        repeat' first
          | refine k_then ?_ | refine c_region ?_ | refine s_nil ?_ | refine s_move (by exact rfl) (by exact rfl) ?_ | refine s_assign (by exact rfl) (by exact rfl) ?_ | refine s_add (by exact rfl) (by exact rfl) (by exact rfl) (by omega) ?_ | refine c_skip ?_ | refine k_blk ?_ | refine c_cond_f (by exact rfl) ?_
        refine c_round (k + 1) [0, 0, 0, 0, 0, 0] (by exact rfl) (by rw [hc1]; exact ⟨rfl, rfl, rfl, rfl, rfl, rfl, rfl, rfl, rfl, trivial⟩) (by omega) (by omega)
    · have hkk : k = (tn es).length := by rw [tn_len]; omega
      rw [hkk, List.take_length] at hfk ⊢
      generalize hce : ((tn es).filter fun e => decide (e.1 ∈ c)).length = ce at *
      rw [tn_len] at hfk
      repeat' first
        | refine k_then ?_ | refine c_seq ?_ | refine c_region ?_ | refine s_nil ?_ | refine s_move (by exact rfl) (by exact rfl) ?_ | refine s_assign (by exact rfl) (by exact rfl) ?_ | refine s_fa (by exact rfl) (by exact rfl) ?_ | refine s_ld_box (by exact rfl) (by exact rfl) (by exact .tail _ (.tail _ (.tail _ (.tail _ (.tail _ (.head _)))))) (by exact rfl) ?_ | refine s_lss (by exact rfl) (by exact rfl) (by exact rfl) ?_ | refine s_sub (by exact rfl) (by exact rfl) (by exact rfl) (by omega) ?_ | refine s_len (by exact rfl) (by exact rfl) (by assumption) ?_ | refine c_block ?_ | refine c_exit ?_ | refine k_then_exit ?_ | refine k_blk_eq ?_ | (refine c_cond_p (by exact rfl) (fun h => ?_) (fun h => ?_) <;> try (exfalso; omega))
      refine c_loop (fun j : Nat => j ≤ Fs.length) (fun j => [(1, vr), (2, .pointer (some ⟨bg, 0, none⟩)), (5, vc), (6, vf), (7, vo), (8, .int .i64 (i : Int)), (9, .int .i64 ((c.length : Int) - (ce : Int) + ((((Fs.take j).filter fun f => decide ((f.headD (0, 0)).1 ∈ c)).length : Nat) : Int))), (10, .int .i64 (ce : Int)), (12, .int .i64 (j : Int))])
        (fun j => [rowHP vo 3 1 i (iV ((cs.take i).map (eulerK (tn es) Fs))), rowHP vf 77 1 Fs.length hf, starHP (kids rowD hf Fs), rowHP vc 41 1 cs.length hc, starHP (kids rowN hc cs), boxHP bg 24 [.int .i64 n, v]])
        (fun j => Fs.length - j) 0 [0, 0, 0, 0, 0, 0] (Nat.zero_le _) (by exact rfl) (by simp only [List.take_zero, List.filter_nil, List.length_nil, Int.natCast_zero, Int.add_zero]; exact ⟨rfl, rfl, rfl, rfl, rfl, rfl, rfl, rfl, rfl, trivial⟩) ?_
      rintro j hj
      have hfj := hffc j
      by_cases hjl : j < Fs.length
      · obtain ⟨f, hf1⟩ : ∃ f, Fs[j]? = some f := ⟨_, List.getElem?_eq_getElem hjl⟩
        obtain ⟨hd2, hhd2⟩ : ∃ hd, hf[j]? = some hd := ⟨_, List.getElem?_eq_getElem (by omega)⟩
        have hhd3 : hf[j * 1]? = some hd2 := by rw [Nat.mul_one]; exact hhd2
        obtain ⟨d, t, rfl, hdN⟩ := hFne f (List.mem_of_getElem? hf1)
        have hcnt := fcount (fun f : List (Nat × Nat) => decide ((f.headD (0, 0)).1 ∈ c)) hf1
        have hkd2 : rowHP hd2 76 2 (d :: t).length (dsV (d :: t)) ∈ kids rowD hf Fs := kids_mem (f := rowD) hhd2 hf1
        have hd0 : (dsV (d :: t))[0 * 2 + 0]? = some (.int .i64 (d.1 : Int)) := rfl
        have hpos : 0 < (d :: t).length := by simp
        repeat' first
          | refine k_then ?_ | refine c_seq ?_ | refine c_region ?_ | refine s_nil ?_ | refine s_move (by exact rfl) (by exact rfl) ?_ | refine s_lss (by exact rfl) (by exact rfl) (by exact rfl) ?_ | refine s_len (by exact rfl) (by exact rfl) (by assumption) ?_ | refine c_block ?_ | refine c_skip ?_ | (refine c_cond_p (by exact rfl) (fun h => ?_) (fun h => ?_) <;> try (exfalso; omega))
        refine know_kid (by exact .tail _ (.tail _ (.head _))) hkd2 fun hsd2 _ => ?_
        refine p_begin0 [(0, true), (1, true), (2, true), (3, true), (4, true), (5, true), (6, true), (7, true), (8, true), (9, true), (10, true), (11, false)] (by kernel_rfl) ?_
        repeat' first
          | (refine p_at (by exact rfl) ?_
             first
              | refine t_move (by exact rfl) (by exact rfl) (by exact fun _ h => h) ?_ | refine t_idx (by exact rfl) (by exact rfl) (by exact rfl) (by assumption) (by first | assumption | omega) (by exact fun _ h => h) ?_ | refine t_fap (by exact rfl) (by exact rfl) (by assumption) (by omega) (by exact fun _ h => h) ?_ | refine t_ld_row (by exact rfl) (by exact rfl) (by first | exact .tail _ (.head _) | exact .tail _ (.tail _ (.tail _ (.head _)))) (by assumption) (by exact fun _ h => h) ?_ | refine t_ld_kid (by exact rfl) (by exact rfl) (by assumption) (by exact .tail _ (.tail _ (.head _))) (by assumption) (by exact fun _ h => h) ?_)
        refine p_call (gd := none) (by exact rfl) rfl (by exact rfl) (fun w h => HasN_ok hd c d.1 w hsd (ro_kid h (by exact .tail _ (.tail _ (.tail _ (.tail _ (.head _))))) hkd)) (by exact fun _ h => h) ?_
        by_cases hin : d.1 ∈ c
        · rw [decide_eq_true hin]
          rw [if_pos (by simpa using hin)] at hcnt
          have hc1 : (c.length : Int) - (ce : Int) + (((((Fs.take (j + 1)).filter fun f => decide ((f.headD (0, 0)).1 ∈ c)).length : Nat) : Int)) = (c.length : Int) - (ce : Int) + (((((Fs.take j).filter fun f => decide ((f.headD (0, 0)).1 ∈ c)).length : Nat) : Int)) + 1 := by rw [hcnt]; omega
          repeat' first
            | refine p_nil ?_
          repeat' first
            | refine k_then ?_ | refine c_region ?_ | refine s_nil ?_ | refine s_move (by exact rfl) (by exact rfl) ?_ | refine s_assign (by exact rfl) (by exact rfl) ?_ | refine s_add (by exact rfl) (by exact rfl) (by exact rfl) (by omega) ?_ | refine k_blk ?_ | refine c_cond_t (by exact rfl) ?_
          refine c_round (j + 1) [0, 0, 0, 0, 0, 0] (by exact rfl) (by rw [hc1]; exact ⟨rfl, rfl, rfl, rfl, rfl, rfl, rfl, rfl, rfl, trivial⟩) (by omega) (by omega)
        · rw [decide_eq_false hin]
          rw [if_neg (by simpa using hin), Nat.add_zero] at hcnt
          repeat' first
            | refine p_nil ?_
          repeat' first
            | refine k_then ?_ | refine c_region ?_ | refine s_nil ?_ | refine s_move (by exact rfl) (by exact rfl) ?_ | refine s_assign (by exact rfl) (by exact rfl) ?_ | refine s_add (by exact rfl) (by exact rfl) (by exact rfl) (by omega) ?_ | refine c_skip ?_ | refine k_blk ?_ | refine c_cond_f (by exact rfl) ?_
          refine c_round (j + 1) [0, 0, 0, 0, 0, 0] (by exact rfl) (by rw [hcnt]; exact ⟨rfl, rfl, rfl, rfl, rfl, rfl, rfl, rfl, rfl, trivial⟩) (by omega) (by omega)
      · obtain rfl : j = Fs.length := by omega
        rw [List.take_length] at hfj ⊢
        have htk : (cs.take (i + 1)).map (eulerK (tn es) Fs) = (cs.take i).map (eulerK (tn es) Fs) ++ [eulerK (tn es) Fs c] := by rw [List.take_add_one, hci, List.map_append]; rfl
        rw [hKc] at htk
        generalize (Fs.filter fun f => decide ((f.headD (0, 0)).1 ∈ c)).length = cf at *
        by_cases h0 : ce = 0
        · rw [if_pos h0] at htk
          repeat' first
            | refine k_then ?_ | refine c_seq ?_ | refine c_region ?_ | refine s_nil ?_ | refine s_move (by exact rfl) (by exact rfl) ?_ | refine s_assign (by exact rfl) (by exact rfl) ?_ | refine s_lss (by exact rfl) (by exact rfl) (by exact rfl) ?_ | refine s_eql (by exact rfl) (by exact rfl) (by exact rfl) ?_ | refine s_add (by exact rfl) (by exact rfl) (by exact rfl) (by omega) ?_ | refine s_len (by exact rfl) (by exact rfl) (by assumption) ?_ | refine c_exit ?_ | refine k_then_exit ?_ | refine k_blk_eq ?_ | (refine c_cond_p (by exact rfl) (fun h => ?_) (fun h => ?_) <;> try (exfalso; omega))
          refine o_mk [.int .i64 ((c.length : Int) - (ce : Int) + (cf : Int) + 1)] (by exact rfl) (by exact rfl) rfl ?_ ?_ (by simp) fun vt hvt => ?_
          · simp [Value.cells]
          · simp
          skip
          refine o_append_row (i := 1) (by exact rfl) (by exact rfl) (by exact rfl) (by exact rfl) (by exact .head _) (by exact rfl) (by simp [Value.cells, Value.oneCell']) (by omega) fun vy hvy => ?_
          repeat' first
            | refine k_then ?_ | refine c_region ?_ | refine s_nil ?_ | refine s_move (by exact rfl) (by exact rfl) ?_ | refine s_assign (by exact rfl) (by exact rfl) ?_ | refine s_add (by exact rfl) (by exact rfl) (by exact rfl) (by omega) ?_ | refine k_blk ?_
          refine c_round (i + 1, vy) [1, 1, 1, 1, 1, 1] ?_ ⟨rfl, rfl, rfl, rfl, rfl, rfl, trivial⟩ (by dsimp only; omega) (by dsimp only; omega)
          dsimp only
          rw [htk, show ∀ a b : List Int, iV (a ++ b) = iV a ++ iV b from fun a b => by simp [iV]]
          rfl
        · rw [if_neg h0, Int.add_zero] at htk
          repeat' first
            | refine k_then ?_ | refine c_seq ?_ | refine c_region ?_ | refine s_nil ?_ | refine s_move (by exact rfl) (by exact rfl) ?_ | refine s_lss (by exact rfl) (by exact rfl) (by exact rfl) ?_ | refine s_eql (by exact rfl) (by exact rfl) (by exact rfl) ?_ | refine s_len (by exact rfl) (by exact rfl) (by assumption) ?_ | refine c_skip ?_ | refine c_exit ?_ | refine k_then_exit ?_ | refine k_blk_eq ?_ | (refine c_cond_p (by exact rfl) (fun h => ?_) (fun h => ?_) <;> try (exfalso; omega))
          refine o_mk [.int .i64 ((c.length : Int) - (ce : Int) + (cf : Int))] (by exact rfl) (by exact rfl) rfl ?_ ?_ (by simp) fun vt hvt => ?_
          · simp [Value.cells]
          · simp
          skip
          refine o_append_row (i := 1) (by exact rfl) (by exact rfl) (by exact rfl) (by exact rfl) (by exact .head _) (by exact rfl) (by simp [Value.cells, Value.oneCell']) (by omega) fun vy hvy => ?_
          repeat' first
            | refine k_then ?_ | refine c_region ?_ | refine s_nil ?_ | refine s_move (by exact rfl) (by exact rfl) ?_ | refine s_assign (by exact rfl) (by exact rfl) ?_ | refine s_add (by exact rfl) (by exact rfl) (by exact rfl) (by omega) ?_ | refine k_blk ?_
          refine c_round (i + 1, vy) [1, 1, 1, 1, 1, 1] ?_ ⟨rfl, rfl, rfl, rfl, rfl, rfl, trivial⟩ (by dsimp only; omega) (by dsimp only; omega)
          dsimp only
          rw [htk, show ∀ a b : List Int, iV (a ++ b) = iV a ++ iV b from fun a b => by simp [iV]]
          rfl
  · repeat' first
      | refine k_then ?_ | refine c_seq ?_ | refine c_region ?_ | refine s_nil ?_ | refine s_move (by exact rfl) (by exact rfl) ?_ | refine s_assign (by exact rfl) (by exact rfl) ?_ | refine s_lss (by exact rfl) (by exact rfl) (by exact rfl) ?_ | refine s_len (by exact rfl) (by exact rfl) (by assumption) ?_ | refine c_exit ?_ | refine c_ret ?_ | refine k_then_exit ?_ | refine k_blk_eq ?_ | (refine c_cond_p (by exact rfl) (fun h => ?_) (fun h => ?_) <;> try (exfalso; omega))
    obtain rfl : i = cs.length := by omega
    rw [List.take_length]
    refine ret1 [0] rfl rfl rfl rfl
theorem refPlane_ok (n : Int) (v : Value) (es : List E) (vr : Value) (hr0 : List Value) (R : List (List Nat)) (o lab : Nat → Nat) (w : World) (hs : Shp v es.length) (hr : RO w No v (esV es)) (hG : RightG n es) (hR : ROs w No vr hr0 R) (hRot : RotL n.toNat (tn es) R) (hL : Lev n.toNat (nb (tn es)) o lab) :
    Calls Tryz.prog 8 #[.agg #[.int .i64 n, v], vr] w (Post w No (Just (.int .i64 (planeR n.toNat (tn es) lab R)))) := by
  have hmany := hG.many
  have hsr := hR.shp
  have hrr := hR.ro
  refine enter0 (vs := [_, _]) Tryz.func8 rfl Tryz.ntmps8 rfl ?_
  repeat' first
    | refine k_then ?_ | refine c_seq ?_ | refine c_region ?_ | refine s_nil ?_ | refine s_move (by exact rfl) (by exact rfl) ?_ | refine s_assign (by exact rfl) (by exact rfl) ?_ | refine s_ldk_box (by exact rfl) (by exact rfl) (by exact .head _) (by exact rfl) (by exact rfl) ?_ | refine o_box (by exact rfl) (by exact rfl) (fun b => ?_)
  revert b; intro bg
  refine s_call (by exact rfl) (by exact rfl) (fun w h => refRotRight_ok n v es vr hr0 (intL R) w hs (ro_old h hr) (by omega) (rosI_old h hR.int)) ?_
  rw [rot_zero hG hRot]
  repeat' first
    | refine k_then ?_ | refine c_seq ?_ | refine c_region ?_ | refine s_nil ?_ | refine s_move (by exact rfl) (by exact rfl) ?_ | refine s_assign (by exact rfl) (by exact rfl) ?_ | refine s_neq (by exact rfl) (by exact rfl) (by exact rfl) ?_ | refine s_ldk_box (by exact rfl) (by exact rfl) (by exact .head _) (by exact rfl) (by exact rfl) ?_ | refine c_skip ?_ | (refine c_cond_p (by exact rfl) (fun h => ?_) (fun h => ?_) <;> try (exfalso; omega))
  refine o_call (by exact rfl) (by exact rfl) (fun w h => refEuler_ok n v es vr hr0 R o lab w hs (ro_old h hr) hG (ros_old h hR) hRot hL) ?_
  rintro vo _ rfl
  refine know_row (v := vo) (.head _) fun hvo _ => ?_
  unfold planeR
  generalize eulerL n.toNat (tn es) lab (facesR n.toNat (tn es) R) = l at *
  have hlm := hvo.1
  simp only [maxLen] at hlm
  repeat' first
    | refine k_then ?_ | refine c_seq ?_ | refine c_region ?_ | refine s_nil ?_ | refine s_assign (by exact rfl) (by exact rfl) ?_ | refine c_block ?_
  refine c_loop (fun k : Nat => k ≤ l.length ∧ ∀ x ∈ l.take k, x = 2) (fun k => [(6, vo), (7, .int .i64 (k : Int))]) (fun _ => [rowHP vo 3 1 l.length (iV l)]) (fun k => l.length - k) 0 [0] ⟨Nat.zero_le _, by simp⟩ (by exact rfl) ⟨rfl, rfl, trivial⟩ ?_
  rintro k ⟨hk, hq⟩
  by_cases hlt : k < l.length
  · obtain ⟨e, he⟩ : ∃ e, l[k]? = some e := ⟨_, List.getElem?_eq_getElem hlt⟩
    have hE : (iV l)[k * 1]? = some (.int .i64 e) := by rw [Nat.mul_one, iV, List.getElem?_map, he]; rfl
    by_cases h2 : e = 2
    · repeat' first
        | refine k_then ?_ | refine c_seq ?_ | refine c_region ?_ | refine s_nil ?_ | refine s_move (by exact rfl) (by exact rfl) ?_ | refine s_assign (by exact rfl) (by exact rfl) ?_ | refine s_lss (by exact rfl) (by exact rfl) (by exact rfl) ?_ | refine s_neq (by exact rfl) (by exact rfl) (by exact rfl) ?_ | refine s_add (by exact rfl) (by exact rfl) (by exact rfl) (by omega) ?_ | refine s_len (by exact rfl) (by exact rfl) (by assumption) ?_ | refine s_idx (by exact rfl) (by exact rfl) (by exact rfl) (by assumption) (by first | assumption | omega) ?_ | refine s_ld_row (by exact rfl) (by exact rfl) (by exact .head _) (by assumption) ?_ | refine c_block ?_ | refine c_skip ?_ | refine k_blk ?_ | (refine c_cond_p (by exact rfl) (fun h => ?_) (fun h => ?_) <;> try (exfalso; omega))
      refine c_round (k + 1) [0] (by exact rfl) ⟨rfl, rfl, trivial⟩ ⟨by omega, fun x hx => ?_⟩ (by omega)
      rw [List.take_add_one, he] at hx
      rcases List.mem_append.1 hx with hx | hx
      · exact hq x hx
      · obtain rfl : x = e := by simpa using hx
        exact h2
    · repeat' first
        | refine k_then ?_ | refine c_seq ?_ | refine c_region ?_ | refine s_nil ?_ | refine s_move (by exact rfl) (by exact rfl) ?_ | refine s_assign (by exact rfl) (by exact rfl) ?_ | refine s_lss (by exact rfl) (by exact rfl) (by exact rfl) ?_ | refine s_neq (by exact rfl) (by exact rfl) (by exact rfl) ?_ | refine s_len (by exact rfl) (by exact rfl) (by assumption) ?_ | refine s_idx (by exact rfl) (by exact rfl) (by exact rfl) (by assumption) (by first | assumption | omega) ?_ | refine s_ld_row (by exact rfl) (by exact rfl) (by exact .head _) (by assumption) ?_ | refine c_block ?_ | refine c_skip ?_ | refine c_ret ?_ | refine k_then_ret ?_ | refine k_blk_ret ?_ | (refine c_cond_p (by exact rfl) (fun h => ?_) (fun h => ?_) <;> try (exfalso; omega))
      refine ret1 [] rfl rfl rfl ⟨?_, rfl⟩
      rw [if_pos (List.any_eq_true.2 ⟨e, List.mem_of_getElem? he, decide_eq_true h2⟩)]
  · repeat' first
      | refine k_then ?_ | refine c_seq ?_ | refine c_region ?_ | refine s_nil ?_ | refine s_move (by exact rfl) (by exact rfl) ?_ | refine s_assign (by exact rfl) (by exact rfl) ?_ | refine s_lss (by exact rfl) (by exact rfl) (by exact rfl) ?_ | refine s_len (by exact rfl) (by exact rfl) (by assumption) ?_ | refine c_exit ?_ | refine c_ret ?_ | refine k_then_exit ?_ | refine k_blk_eq ?_ | (refine c_cond_p (by exact rfl) (fun h => ?_) (fun h => ?_) <;> try (exfalso; omega))
    rw [List.take_of_length_le (by omega)] at hq
    refine ret1 [] rfl rfl rfl ⟨?_, rfl⟩
    rw [if_neg]
    rw [List.any_eq_true]
    rintro ⟨x, hx, hne⟩
    exact of_decide_eq_true hne (hq x hx)
theorem refPlane_no (n : Int) (v : Value) (es : List E) (vr : Value) (hr0 : List Value) (ls : List (List Int)) (w : World) (hs : Shp v es.length) (hr : RO w No v (esV es)) (hm : es.length < 4611686018427387904) (hR : ROsI w No vr hr0 ls) (hk : rotK n es ls ≠ 0) :
    Calls Tryz.prog 8 #[.agg #[.int .i64 n, v], vr] w (Post w No (Just (.int .i64 (rotK n es ls)))) := by
  have hsr := hR.shp
  have hrr := hR.ro
  refine enter0 (vs := [_, _]) Tryz.func8 rfl Tryz.ntmps8 rfl ?_
  repeat' first
    | refine k_then ?_ | refine c_seq ?_ | refine c_region ?_ | refine s_nil ?_ | refine s_move (by exact rfl) (by exact rfl) ?_ | refine s_assign (by exact rfl) (by exact rfl) ?_ | refine s_ldk_box (by exact rfl) (by exact rfl) (by exact .head _) (by exact rfl) (by exact rfl) ?_ | refine o_box (by exact rfl) (by exact rfl) (fun b => ?_)
  refine s_call (by exact rfl) (by exact rfl) (fun w h => refRotRight_ok n v es vr hr0 ls w hs (ro_old h hr) hm (rosI_old h hR)) ?_
  repeat' first
    | refine k_then ?_ | refine c_seq ?_ | refine c_region ?_ | refine s_nil ?_ | refine s_move (by exact rfl) (by exact rfl) ?_ | refine s_assign (by exact rfl) (by exact rfl) ?_ | refine s_neq (by exact rfl) (by exact rfl) (by exact rfl) ?_ | refine c_ret ?_ | refine k_then_ret ?_ | (refine c_cond_p (by exact rfl) (fun h => ?_) (fun h => ?_) <;> try (exfalso; omega))
  refine ret1 [] rfl rfl rfl ⟨rfl, rfl⟩
end Go.Proofs.YtpajjnkmaebhcaaGreat
end
section
set_option linter.unusedVariables false
set_option linter.unusedSimpArgs false
namespace Go.Sl
open Go Go.RowKit
section
variable {P : Program} {w0 : World} {S0 : FS} {n : Nat} {F : List (Nat × Value)} {L Lk : List HP} {ops : Array Oper} {Q : Exit → Act → World → Prop}
theorem wpAnyH_weak {S T : World → Prop} (hS : ∀ w, S w → T w) : ∀ (k : Nat) (l : Array Bool) (a : Act) (w : World), wpAnyH P .any ops Q S k l a w → wpAnyH P .any ops Q T k l a w
  | 0, _, _, _, h => h
  | k + 1, _, _, _, h => ⟨h.1, fun i hi => wpOp_mono (fun a' w' h' => ⟨hS _ h'.1, wpAnyH_weak hS k _ a' w' h'.2⟩) (h.2 i hi)⟩
theorem wpSeg_anyH {S T : World → Prop} (hS : ∀ w, S w → T w) {seg : List Nat} {m : Nat} : ∀ (k : Nat) (l : Array Bool) (a : Act) (w : World), wpSeg P ops Q S seg (wpAnyH P .any ops Q T m) k l a w → wpAnyH P .any ops Q T (m + k) l a w
  | 0, _, _, _, h => h.2
  | k + 1, _, _, _, h => ⟨fun e => absurd e h.1, fun i hi => wpOp_mono (fun a' w' h' => ⟨hS _ h'.1, wpSeg_anyH hS k _ a' w' h'.2⟩) (h.2 i hi).2⟩
/-- the end of the first phase -/
def cutK3 (P : Program) (ops : Array Oper) (Q : Exit → Act → World → Prop) (T : World → Prop) (plan : List PI) : Exit → Act → World → Prop
  | .normal, a, w => ∃ S : World → Prop, S w ∧ (∀ w, S w → T w) ∧ PW P ops Q S plan a w
  | e, a, w => Q e a w
instance {T : World → Prop} {plan : List PI} [T' : PO Q] : PO (cutK3 P ops Q T plan) := ⟨fun c a d v w h => T'.ok c a d v w h⟩
/-- the end of what is taken first -/
def cutK0 (P : Program) (ops : Array Oper) (Q : Exit → Act → World → Prop) (T : World → Prop) (plan1 plan2 : List PI) : Exit → Act → World → Prop
  | .normal, a, w => ∃ S : World → Prop, S w ∧ (∀ w, S w → T w) ∧ PW P ops (cutK3 P ops Q T plan2) S plan1 a w
  | e, a, w => Q e a w
instance {T : World → Prop} {plan1 plan2 : List PI} [T' : PO Q] : PO (cutK0 P ops Q T plan1 plan2) := ⟨fun c a d v w h => T'.ok c a d v w h⟩
theorem wpOp_cutK3 {T : World → Prop} {plan : List PI} {i : Nat} {K : Act → World → Prop} {a : Act} {w : World} (h : wpOp P ops (cutK3 P ops Q T plan) i K a w) : wpOp P ops Q i K a w := by
  unfold wpOp at *
  split
  · rename_i ho
    rw [ho] at h
    exact h
  · rename_i o ho
    rw [ho] at h
    dsimp only at h
    split
    · rename_i hw
      rw [if_pos hw] at h
      refine h.imp (fun h => ?_) (fun h => ⟨h.1, h.2⟩)
      unfold Oper.wp at *
      generalize (execOp a.eval o).run P w = r at *
      unfold Oper.upon at *
      split at h
      all_goals first
        | exact h
        | exact Calls.mono h fun e w'' he => by cases e <;> exact he
    · rename_i hw
      rw [if_neg hw] at h
      exact h
theorem pwt_sound3 {T S : World → Prop} {plan2 : List PI} {seg : List Nat} {K : Act → World → Prop} {KK : Array Bool → Act → World → Prop} {k : Array Bool → Bool} {m : Nat} (hk : ∀ l a w, k l = true → K a w → wpSeg P ops Q S seg KK m l a w) : ∀ (t : PT) (listed : Array Bool) (a : Act) (w : World), treeOk1 ops seg k listed t = true → PWt P ops (cutK3 P ops Q T plan2) S K t a w → wpSeg P ops Q S seg KK (m + t.n) listed a w
  | .leaf, listed, a, w, hp, h => hk listed a w hp h
  | .one i t, listed, a, w, hp, h => by
    simp only [treeOk1, Bool.and_eq_true] at hp
    have e : Region.ready .any ops listed = [i] := by simpa using hp.1.2
    refine ⟨by rw [e]; simp, fun j hj => ?_⟩
    rw [e] at hj
    obtain rfl : j = i := by simpa using hj
    exact ⟨by simpa using hp.1.1, wpOp_mono (fun a' w' ⟨h1, h2⟩ => ⟨h1, pwt_sound3 hk t _ _ _ hp.2 h2⟩) (wpOp_cutK3 h)⟩
  | .two i t j u, listed, a, w, hp, h => by
    simp only [treeOk1, Bool.and_eq_true, Bool.or_eq_true, beq_iff_eq] at hp
    obtain ⟨⟨⟨⟨⟨s1, s2⟩, h1⟩, h2⟩, h3⟩, h4⟩ := hp
    have key : ∀ k, k = i ∨ k = j → k ∈ seg ∧ wpOp P ops Q k (fun a' w' => S w' ∧ wpSeg P ops Q S seg KK (m + t.n) (listed.setIfInBounds k true) a' w') a w := by
      rintro k (rfl | rfl)
      · exact ⟨by simpa using s1, wpOp_mono (fun a' w' ⟨h5, h6⟩ => ⟨h5, pwt_sound3 hk t _ _ _ h3 h6⟩) (wpOp_cutK3 h.1)⟩
      · rw [h2]
        exact ⟨by simpa using s2, wpOp_mono (fun a' w' ⟨h5, h6⟩ => ⟨h5, pwt_sound3 hk u _ _ _ h4 h6⟩) (wpOp_cutK3 h.2)⟩
    rcases h1 with h1 | h1
    · exact ⟨by rw [h1]; simp, fun k hk => key k (by rw [h1] at hk; simpa using hk)⟩
    · exact ⟨by rw [h1]; simp, fun k hk => key k (by rw [h1] at hk; simpa [or_comm] using hk)⟩
theorem pw_sound3 [T' : PO Q] {T S : World → Prop} {seg : List Nat} {plan2 : List PI} (hs : Region.noSelect ops = true) : ∀ (plan : List PI) (listed : Array Bool) (a : Act) (w : World), planOk1 ops seg plan2 listed plan = true → PW P ops (cutK3 P ops Q T plan2) S plan a w → wpSeg P ops Q S seg (wpAnyH P .any ops Q T (planLen plan2)) (planLen plan) listed a w
  | [], listed, a, w, hp, h => by
    simp only [planOk1, Bool.and_eq_true, List.all_eq_true] at hp
    obtain ⟨S', hS', hT, h⟩ := h
    exact ⟨hp.1, wpAnyH_weak hT _ _ _ _ (pw_sound hs plan2 _ _ _ hp.2 h)⟩
  | .rd i j :: rest, listed, a, w, hp, h => by simp [planOk1] at hp
  | .tree t :: rest, listed, a, w, hp, h => by
    show wpSeg P ops Q S seg _ (planLen rest + t.n) listed a w
    exact pwt_sound3 (fun l a w hl hK => pw_sound3 hs rest l a w hl hK) t listed a w hp h
  | .mk i true :: rest, listed, a, w, hp, h => by
    obtain ⟨o, v, ho, hy, hS, hr⟩ := h
    simp only [planOk1, if_true, Bool.and_eq_true, depsOk, List.all_eq_true, Bool.or_eq_true] at hp
    obtain ⟨⟨⟨h1, h2⟩, h3, h4⟩, h5⟩ := hp
    refine wpSeg_first ho (Region.noSelect_spec hs) (fun c a w h => T'.ok c a _ _ w h) (by simpa using h3) (fun j oj hoj hjs => ?_) (planLen rest) listed a w (Region.free_spec ho h2) (by simpa using h1) hy hS (pw_sound3 hs rest _ _ _ h5 hr)
    have := h4 j (by simpa using (Array.getElem?_eq_some_iff.1 hoj).1)
    rcases this with h | h
    · exact absurd (by simpa using h) hjs
    · rw [hoj] at h
      dsimp only at h
      rw [← Array.any_toList, List.any_eq_true] at h
      obtain ⟨e, h1, h2⟩ := h
      simp only [Bool.and_eq_true, beq_iff_eq] at h2
      exact ⟨e, by simpa using h1, h2.1, h2.2⟩
  | .mk i false :: rest, listed, a, w, hp, h => by
    simp only [planOk1, Bool.and_eq_true, Bool.false_eq_true, if_false] at hp
    have e : Region.ready .any ops listed = [i] := by simpa using hp.1.2
    refine ⟨by rw [e]; simp, fun j hj => ?_⟩
    rw [e] at hj
    obtain rfl : j = i := by simpa using hj
    exact ⟨by simpa using hp.1.1, wpOp_mono (fun a' w' ⟨h1, h2⟩ => ⟨h1, pw_sound3 hs rest _ _ _ hp.2 h2⟩) (wpOp_cutK3 h)⟩
/-- what is taken first, then the first phase, then the second -/
def planOk0 (ops : Array Oper) (seg : List Nat) (plan1 plan2 : List PI) : Array Bool → List PI → Bool
  | listed, [] => planOk1 ops seg plan2 listed plan1
  | listed, .mk i true :: rest => (Region.ready .any ops listed).contains i && Region.free .any ops listed i && planOk0 ops seg plan1 plan2 (listed.setIfInBounds i true) rest
  | _, _ => false
theorem pw_sound0 [T' : PO Q] {T : World → Prop} {seg : List Nat} {plan1 plan2 : List PI} (hs : Region.noSelect ops = true) : ∀ (plan : List PI) (listed : Array Bool) (a : Act) (w : World), planOk0 ops seg plan1 plan2 listed plan = true → PW P ops (cutK0 P ops Q T plan1 plan2) T plan a w → wpAnyH P .any ops Q T (planLen plan2 + planLen plan1 + planLen plan) listed a w
  | [], listed, a, w, hp, h => by
    obtain ⟨S, hS, hT, h⟩ := h
    have := wpSeg_anyH hT (planLen plan1) _ _ _ (pw_sound3 (T := T) hs plan1 _ _ _ hp h)
    exact this
  | .mk i true :: rest, listed, a, w, hp, h => by
    obtain ⟨o, v, ho, hy, hS, hr⟩ := h
    simp only [planOk0, Bool.and_eq_true] at hp
    exact wpAnyH_take ho hs hp.1.2 hp.1.1 (fun c a w h => T'.ok c a _ _ w h) hy hS (pw_sound0 hs rest _ _ _ hp.2 hr)
  | .mk i false :: rest, listed, a, w, hp, h => by simp [planOk0] at hp
  | .rd i j :: rest, listed, a, w, hp, h => by simp [planOk0] at hp
  | .tree t :: rest, listed, a, w, hp, h => by simp [planOk0] at hp
/-- three plans: what is taken first, and Lk that holds during the whole region; the two phases -/
theorem p_begin3 [T : PO Q] {id : Nat} {l : List Oper} (plan0 plan1 plan2 : List PI) (Lk : List HP) (hm : (P.follows .mixedOrders && Region.noSelect l.toArray && planOk0 l.toArray (segOf plan0 ++ segOf plan1) plan1 plan2 (Array.replicate l.toArray.size false) plan0 && (planLen plan2 + planLen plan1 + planLen plan0 == l.toArray.size)) = true)
    (h : RP P w0 S0 n l.toArray (cutK0 P l.toArray Q (St w0 S0 Lk) plan1 plan2) Lk plan0 F L) : Reach w0 S0 n F L ((Code.region id l.toArray true).wp P Q) := by
  simp only [Bool.and_eq_true, beq_iff_eq] at hm
  obtain ⟨⟨⟨h1, h2⟩, h3⟩, h4⟩ := hm
  intro a w hf hs
  refine wp_region_any h1 ?_
  have := wpAny_of_held _ _ _ _ (pw_sound0 (Q := Q) h2 plan0 _ _ _ h3 (h a _ hf hs.drew))
  rwa [h4] at this
/-- the first phase begins: Lk1 holds during it -/
theorem p_cut0 {T : World → Prop} {plan1 plan2 : List PI} (Lk : List HP) (hL : ∀ w, St w0 S0 L w → St w0 S0 Lk w) (hT : ∀ w, St w0 S0 Lk w → T w) (h : RP P w0 S0 n ops (cutK3 P ops Q T plan2) Lk plan1 F L) : Reach w0 S0 n F L (cutK0 P ops Q T plan1 plan2 .normal) :=
  fun a w hf hs => ⟨St w0 S0 Lk, hL w hs, hT, h a w hf hs⟩
/-- the second phase begins -/
theorem p_cut3 {T : World → Prop} {plan : List PI} (Lk : List HP) (hL : ∀ w, St w0 S0 L w → St w0 S0 Lk w) (hT : ∀ w, St w0 S0 Lk w → T w) (h : RP P w0 S0 n ops Q Lk plan F L) : Reach w0 S0 n F L (cutK3 P ops Q T plan .normal) :=
  fun a w hf hs => ⟨St w0 S0 Lk, hL w hs, hT, h a w hf hs⟩
end
section
variable {P : Program} {w0 : World} {S0 : FS} {n : Nat} {F : List (Nat × Value)} {L Lk : List HP} {o : Oper} {ops : Array Oper} {Q : Exit → Act → World → Prop} {d i : Nat} {plan rest : List PI} {R : Act → World → Prop} {ty : TypeId} {ps : String} {af : Array Edge}
theorem l_lendv {f : FuncId} {c : Operand} {xs : Array Operand} {ts : Array TypeId} {vs pre caps : List Value} {G : Value → List HP → Prop} (L0 Lr : List HP) (hLL : L = L0 ++ Lr) (ho : o.op = .call { callee := .value c, args := xs, argTypes := ts }) (hd : o.dst = some d) (hn : Nat.blt d n = true) (hcv : ev F c = some (.func (.func f) pre.toArray caps.toArray)) (hvs : xs.toList.map (ev F) = vs.map some) [T : FnTy P f]
    (hc : ∀ w S, Lent w0 S0 L0 Lr S w → Calls P f (pre ++ vs ++ caps).toArray w (Post w S G)) (h : ∀ v L', G v L' → Reach w0 S0 n ((d, v) :: F) (L' ++ Lr) R) : Reach w0 S0 n F L (fun a w => o.wp P a w R Q) := by
  subst hLL
  intro a w hf hs
  have hr := callv_run (P := P) (w := w) hf ho hcv hvs
  unfold Oper.wp
  rw [hr, Oper.upon_enter]
  obtain ⟨S, Sr, Sf, hm0, hs0, hsr, hSf, hSr, hdis⟩ := hs.lend
  refine (hc w S ⟨hs0, ⟨Sf, hm0, hSf⟩, ⟨Sr, hsr, hdis⟩⟩).mono ?_
  rintro e w' ⟨u, L', g, rfl, S', hm, hl⟩
  refine h u L' g _ _ (by rw [hd]; exact hf.put hn) ?_
  have hsr' : sats Lr Sr w' := sats_move (fun k hk hlt => hm.keep k hlt (fun h => hdis k h hk)) hsr
  refine ⟨fun k => S' k ∨ Sr k, hm0.trans ⟨hm.os, hm.tape, hm.output, hm.drawn, hm.size, fun k hk hn => hm.keep k hk (fun h => hn (hSf k h)), ?_⟩, sats_append hl hsr' ?_⟩
  · rintro k (hk | hk)
    · exact (hm.new k hk).imp (hSf k) id
    · exact .inl (hSr k hk).1
  · intro k hk hk2
    rcases hm.new k hk with h | h
    · exact hdis k h hk2
    · have := (hSr k hk2).2; omega
theorem p_lendv {f : FuncId} {c : Operand} {xs : Array Operand} {ts : Array TypeId} {vs pre caps : List Value} {G : Value → List HP → Prop} (L0 Lr : List HP) (hLL : L = L0 ++ Lr) [T : FnTy P f] (ho : ops[i]? = some ⟨some d, .call { callee := .value c, args := xs, argTypes := ts }, ty, ps, af, none⟩) (hn : Nat.blt d n = true) (hcv : ev F c = some (.func (.func f) pre.toArray caps.toArray)) (hvs : xs.toList.map (ev F) = vs.map some)
    (hc : ∀ w S, Lent w0 S0 L0 Lr S w → Calls P f (pre ++ vs ++ caps).toArray w (Post w S G)) (h : ∀ v L', G v L' → (∀ w, St w0 S0 (L' ++ Lr) w → St w0 S0 Lk w) ∧ RP P w0 S0 n ops Q Lk rest ((d, v) :: F) (L' ++ Lr)) : RP P w0 S0 n ops Q Lk (.mk i false :: rest) F L :=
  p_l ho rfl fun R hR => l_lendv L0 Lr hLL rfl rfl hn hcv hvs hc fun v L' g => hR _ _ (h v L' g).1 (h v L' g).2
end
end Go.Sl
end
section
namespace Go.Proofs.YtpajjnkmaebhcaaGreat
open Go.RowKit Go.Sl Fil
set_option maxRecDepth 100000
set_option maxHeartbeats 8000000
set_option linter.unusedVariables false
set_option linter.unusedSimpArgs false
attribute [local irreducible] Code.wp wpList bodyPost wpQuiet Exit.then Exit.inBlock Post wpAnyH wpOp
end Go.Proofs.YtpajjnkmaebhcaaGreat
end
section
namespace Go.Proofs.YtpajjnkmaebhcaaGreat
open Go.RowKit Go.Sl Fil
set_option maxRecDepth 100000
set_option maxHeartbeats 8000000
set_option linter.unusedVariables false
set_option linter.unusedSimpArgs false
attribute [local irreducible] Code.wp wpList bodyPost wpQuiet Exit.then Exit.inBlock Post wpAnyH wpOp
end Go.Proofs.YtpajjnkmaebhcaaGreat
end
section
namespace Go.Proofs.YtpajjnkmaebhcaaGreat
open Go.RowKit Go.Sl Fil
set_option maxRecDepth 100000
set_option maxHeartbeats 8000000
set_option linter.unusedVariables false
set_option linter.unusedSimpArgs false
attribute [local irreducible] Code.wp wpList bodyPost wpQuiet Exit.then Exit.inBlock Post wpAnyH wpOp
end Go.Proofs.YtpajjnkmaebhcaaGreat
end
section
namespace Fil
def swapE (e : E) : E := if e.2.1 < e.1 then (e.2.1, e.1, e.2.2) else e
def posE (g : List E) (e : E) : Nat → Nat
  | 0 => 0
  | k + 1 => if belowB e (g.getD k (0, 0, 0)) then posE g e k else k + 1
def insE (g : List E) (e : E) : List E := g.take (posE g e g.length) ++ [e] ++ g.drop (posE g e g.length)
def twE (g : List E) (e : E) : Bool := decide (0 < posE g e g.length) && !belowB (g.getD (posE g e g.length - 1) (0, 0, 0)) e
def makeF (n : Int) : List E → List E → Bool → Int × List E
  | [], g, tw => if tw then (7, []) else (0, g)
  | e :: l, g, tw => if aloneK n e.1 e.2.1 e.2.2 = 0 then makeF n l (insE g (swapE e)) (tw || twE g (swapE e)) else (aloneK n e.1 e.2.1 e.2.2, [])
def makeR (n : Int) (l : List E) : Int × List E := if sizesK n l.length = 0 then makeF n l [] false else (sizesK n l.length, [])
theorem posE_le (g : List E) (e : E) : ∀ k, posE g e k ≤ k
  | 0 => Nat.le_refl _
  | k + 1 => by
    rw [posE]
    have := posE_le g e k
    split <;> omega
end Fil
namespace Go.Proofs.YtpajjnkmaebhcaaGreat
open Go Go.RowKit Go.Sl Fil
set_option maxRecDepth 100000
set_option maxHeartbeats 8000000
set_option linter.unusedVariables false
set_option linter.unusedSimpArgs false
attribute [local irreducible] Code.wp wpList bodyPost wpQuiet Exit.then Exit.inBlock Post wpAnyH wpOp
theorem eV_one (e : E) : ∀ u ∈ eV e, u.oneCell' = true := by
  intro u hu
  simp only [eV, List.mem_cons, List.not_mem_nil, or_false] at hu
  rcases hu with rfl | rfl | rfl <;> rfl
theorem esV_one (l : List E) : ∀ u ∈ esV l, u.oneCell' = true := by
  intro u hu
  obtain ⟨e, _, he⟩ := List.mem_flatMap.1 hu
  exact eV_one e u he
theorem esV_append (a b : List E) : esV (a ++ b) = esV a ++ esV b := by simp [esV]
end Go.Proofs.YtpajjnkmaebhcaaGreat
end
section
namespace Fil
theorem RightG.sub {n : Int} {es fs : List E} (h : RightG n es) (hs : fs.Sublist es) : RightG n fs :=
  ⟨h.lo, h.hi, Nat.le_trans hs.length_le h.many, fun e he => h.ok e (hs.mem he), h.sorted.sublist hs⟩
end Fil
namespace Go.Proofs.YtpajjnkmaebhcaaGreat
open Go Go.RowKit Go.Sl Fil
set_option maxRecDepth 100000
set_option maxHeartbeats 8000000
set_option linter.unusedVariables false
set_option linter.unusedSimpArgs false
attribute [local irreducible] Code.wp wpList bodyPost wpQuiet Exit.then Exit.inBlock Post wpAnyH wpOp
end Go.Proofs.YtpajjnkmaebhcaaGreat
end
section
set_option linter.unusedVariables false
namespace Fil
theorem tn_mem {es : List E} {u v : Nat} : (u, v) ∈ tn es ↔ ∃ e ∈ es, e.1.toNat = u ∧ e.2.1.toNat = v := by
  simp only [tn, List.mem_map, Prod.mk.injEq]
/-- edge i joins a and b -/
def Joins (es : List E) (i a b : Nat) : Prop := ∃ e, es[i]? = some e ∧ (e.1.toNat = a ∧ e.2.1.toNat = b ∨ e.1.toNat = b ∧ e.2.1.toNat = a)
theorem Joins.symm {es : List E} {i a b : Nat} (h : Joins es i a b) : Joins es i b a := h.imp fun _ h => ⟨h.1, h.2.symm⟩
theorem near_joins {n : Int} {es : List E} (hR : RightG n es) {a b : Nat} : a ∈ nb (tn es) b ↔ ∃ i, Joins es i a b := by
  rw [mem_nb (good_ne hR.good), tn_mem, tn_mem]
  constructor
  · rintro (⟨e, h1, h2, h3⟩ | ⟨e, h1, h2, h3⟩)
    · obtain ⟨i, hi⟩ := List.getElem?_of_mem h1
      exact ⟨i, e, hi, .inr ⟨h2, h3⟩⟩
    · obtain ⟨i, hi⟩ := List.getElem?_of_mem h1
      exact ⟨i, e, hi, .inl ⟨h2, h3⟩⟩
  · rintro ⟨i, e, h1, ⟨h2, h3⟩ | ⟨h2, h3⟩⟩
    · exact .inr ⟨e, List.mem_of_getElem? h1, h2, h3⟩
    · exact .inl ⟨e, List.mem_of_getElem? h1, h2, h3⟩
section
variable {n : Int} {es : List E} {o lab : Nat → Nat} {os labs : Nat → Nat → Nat}
theorem Joins.lt (hR : RightG n es) {i a b : Nat} (h : Joins es i a b) : a < n.toNat ∧ b < n.toNat ∧ a ≠ b := by
  have hG := hR.good
  rcases (mem_nb (good_ne hG)).1 ((near_joins hR).2 ⟨i, h⟩) with h | h
  · have := hG.lt _ h; simp at this; omega
  · have := hG.lt _ h; simp at this; omega
end
end Fil
end
section
set_option linter.unusedVariables false
namespace Fil
theorem ind_sum {key : Nat} : ∀ {cs : List (List Nat)} {a : Nat} {c : List Nat}, cs[a]? = some c → (∀ (b : Nat) y, cs[b]? = some y → (key ∈ y ↔ b = a)) → (cs.map fun c => if key ∈ c then 1 else 0).sum = 1
  | [], a, c, h, _ => by simp at h
  | x :: cs, 0, c, h, hu => by
    have hx : key ∈ x := (hu 0 x rfl).2 rfl
    have hz : ∀ (cs : List (List Nat)), (∀ y ∈ cs, key ∉ y) → (cs.map fun c => if key ∈ c then 1 else 0).sum = 0 := by
      intro cs
      induction cs with
      | nil => intro _; rfl
      | cons y cs ih =>
        intro h
        rw [List.map_cons, List.sum_cons, if_neg (h y (.head _)), ih fun z hz => h z (.tail _ hz)]
    rw [List.map_cons, List.sum_cons, if_pos hx, hz cs fun y hy hk => ?_]
    obtain ⟨b, hb⟩ := List.getElem?_of_mem hy
    have := (hu (b + 1) y (by simpa using hb)).1 hk
    omega
  | x :: cs, a + 1, c, h, hu => by
    have hx : key ∉ x := fun hk => by have := (hu 0 x rfl).1 hk; omega
    rw [List.map_cons, List.sum_cons, if_neg hx, Nat.zero_add]
    exact ind_sum (a := a) (by simpa using h) fun b y hb => by
      rw [hu (b + 1) y (by simpa using hb)]; omega
theorem sum_count {α : Type} {key : α → Nat} {cs : List (List Nat)} : ∀ {l : List α}, (∀ x ∈ l, ∃ a c, cs[a]? = some c ∧ key x ∈ c ∧ ∀ (b : Nat) y, cs[b]? = some y → (key x ∈ y ↔ b = a)) → (cs.map fun c => (l.filter fun x => decide (key x ∈ c)).length).sum = l.length
  | [], _ => by
    have : ∀ cs : List (List Nat), (cs.map fun _ => 0).sum = 0 := by
      intro cs
      induction cs with
      | nil => rfl
      | cons y cs ih => rw [List.map_cons, List.sum_cons, ih]
    exact this cs
  | x :: l, h => by
    obtain ⟨a, c, h1, h2, h3⟩ := h x (.head _)
    have ih := sum_count (key := key) (cs := cs) fun y hy => h y (.tail _ hy)
    have h4 := ind_sum (key := key x) h1 h3
    have e : ∀ c : List Nat, (((x :: l).filter fun y => decide (key y ∈ c)).length) = (if key x ∈ c then 1 else 0) + ((l.filter fun y => decide (key y ∈ c)).length) := fun c => by
      rw [List.filter_cons]
      by_cases hk : key x ∈ c
      · rw [if_pos (decide_eq_true hk), if_pos hk, List.length_cons]; omega
      · rw [if_neg (by simpa using hk), if_neg hk]; omega
    have hadd : ∀ (f g : List Nat → Nat) (cs : List (List Nat)), (cs.map fun c => f c + g c).sum = (cs.map f).sum + (cs.map g).sum := by
      intro f g cs
      induction cs with
      | nil => rfl
      | cons y cs ih => simp only [List.map_cons, List.sum_cons, ih]; omega
    simp only [e]
    rw [hadd, h4, ih, List.length_cons]; omega
theorem sum_add {α : Type} (f g : α → Nat) (cs : List α) : (cs.map fun c => f c + g c).sum = (cs.map f).sum + (cs.map g).sum := by
  induction cs with
  | nil => rfl
  | cons y cs ih => simp only [List.map_cons, List.sum_cons, ih]; omega
theorem sum_two {α : Type} (p : α → Bool) (cs : List α) : (cs.map fun c => if p c = true then 2 else 0).sum = 2 * (cs.filter p).length := by
  induction cs with
  | nil => rfl
  | cons y cs ih =>
    rw [List.map_cons, List.sum_cons, ih, List.filter_cons]
    by_cases h : p y = true
    · rw [if_pos h, if_pos h, List.length_cons]; omega
    · rw [if_neg h, if_neg h]; omega
def nearP (N : Nat) (l : List (Nat × Nat)) : List Nat := (List.range N).filter fun v => decide (0 < (nearS l v).length)
theorem euler_sum {n : Int} {es : List E} {R : List (List Nat)} {o lab : Nat → Nat} (hR : RightG n es) (h : RotL n.toNat (tn es) R) (hL : Lev n.toNat (nb (tn es)) o lab) (hP : ∀ c ∈ compsS n.toNat lab, eulerK (tn es) (facesR n.toNat (tn es) R) c = 2) :
    (nearP n.toNat (tn es)).length + (facesR n.toNat (tn es) R).length = es.length + 2 * ((compsS n.toNat lab).filter fun c => decide (1 < c.length)).length := by
  have hd := facesR_dec hR h
  have hone : ∀ v, v < n.toNat → ∃ a c, (compsS n.toNat lab)[a]? = some c ∧ v ∈ c ∧ ∀ (b : Nat) y, (compsS n.toNat lab)[b]? = some y → (v ∈ y ↔ b = a) := fun v hv => comp_one hL hv
  have s1 := sum_count (key := fun v => v) (cs := compsS n.toNat lab) (l := nearP n.toNat (tn es)) fun v hv => hone v (List.mem_range.1 (List.mem_filter.1 hv).1)
  have s2 := sum_count (key := fun e : Nat × Nat => e.1) (cs := compsS n.toNat lab) (l := tn es) fun e he => hone e.1 (by have := (hR.good).lt e he; omega)
  have s3 := sum_count (key := fun f : List (Nat × Nat) => (f.headD (0, 0)).1) (cs := compsS n.toNat lab) (l := facesR n.toNat (tn es) R) fun f hf => by
    refine hone _ ?_
    have hne := (hd.cy f hf).1
    obtain ⟨d, f', rfl⟩ : ∃ d f', f = d :: f' := by cases f with | nil => exact absurd rfl hne | cons d f' => exact ⟨d, f', rfl⟩
    exact (dart_lt hR (hd.perm.mem_iff.1 (List.mem_flatten.2 ⟨_, hf, .head _⟩))).1
  rw [tn_len] at s2
  have s4 := sum_two (fun c : List Nat => decide (1 < c.length)) (compsS n.toNat lab)
  have key : ∀ c ∈ compsS n.toNat lab, ((nearP n.toNat (tn es)).filter fun x => decide (x ∈ c)).length + ((facesR n.toNat (tn es) R).filter fun f => decide ((f.headD (0, 0)).1 ∈ c)).length = ((tn es).filter fun e => decide (e.1 ∈ c)).length + if (decide (1 < c.length)) = true then 2 else 0 := by
    intro c hc
    have h2 := hP c hc
    have hcm : ∀ v ∈ c, v < n.toNat := fun v hv => by
      obtain ⟨r, hr, hrr, rfl⟩ := comp_mem hc
      exact List.mem_range.1 (List.mem_filter.1 hv).1
    have hl : c.length ≠ 0 := fun e => comp_ne hc (List.eq_nil_of_length_eq_zero e)
    by_cases h1 : c.length = 1
    · obtain ⟨d1, d2⟩ := single hR h hL hc h1
      rw [eulerK, if_pos h1, d2] at h2
      obtain ⟨v, rfl⟩ := List.length_eq_one_iff.1 h1
      have hv : rf R v = [] := by
        rw [dartsOf, List.flatMap_cons, List.flatMap_nil, List.append_nil] at d1
        rw [vc] at d1
        simpa using d1
      have h3 : ((nearP n.toNat (tn es)).filter fun x => decide (x ∈ [v])) = [] := List.filter_eq_nil_iff.2 fun u hu hx => by
        obtain rfl : u = v := by simpa using hx
        have h4 := (List.mem_filter.1 hu).2
        have h5 : 0 < (nearS (tn es) u).length := by simpa using h4
        obtain ⟨x, hx⟩ := List.exists_mem_of_length_pos h5
        have := (h.mem hR).2 (mem_nearS.1 hx)
        rw [hv] at this; simp at this
      rw [d2, h3, if_neg (by simp)]
      simp only [List.length_nil] at h2 ⊢
      omega
    · obtain ⟨c', hp, hg⟩ := comp_grow hR h hL hc
      have hpl := hp.length_eq
      have hne := grow_ne (h.sys hR) hg (by omega)
      have h3 : ((nearP n.toNat (tn es)).filter fun x => decide (x ∈ c)).Perm c := by
        refine (List.perm_ext_iff_of_nodup ?_ (comp_nodup hc)).2 fun u => ⟨fun hu => by simpa using (List.mem_filter.1 hu).2, fun hu => ?_⟩
        · exact (List.nodup_range.sublist List.filter_sublist).sublist List.filter_sublist
        · refine List.mem_filter.2 ⟨List.mem_filter.2 ⟨List.mem_range.2 (hcm u hu), ?_⟩, by simpa using hu⟩
          obtain ⟨x, hx⟩ := List.exists_mem_of_ne_nil _ (hne u (hp.mem_iff.2 hu))
          exact decide_eq_true (List.length_pos_of_mem (mem_nearS.2 ((h.mem hR).1 hx)))
      rw [eulerK, if_neg h1] at h2
      rw [h3.length_eq, if_pos (decide_eq_true (by omega))]
      omega
  have hsum := congrArg List.sum (List.map_congr_left key)
  rw [sum_add, sum_add, s1, s2, s3, s4] at hsum
  exact hsum
theorem planeR_two {N : Nat} {l : List (Nat × Nat)} {lab : Nat → Nat} {R : List (List Nat)} (h : planeR N l lab R = 0) : ∀ c ∈ compsS N lab, eulerK l (facesR N l R) c = 2 := by
  intro c hc
  rw [planeR] at h
  split at h
  · omega
  · rename_i hn
    refine Decidable.byContradiction fun hne => hn ?_
    exact List.any_eq_true.2 ⟨_, List.mem_map.2 ⟨c, hc, rfl⟩, decide_eq_true hne⟩
end Fil
end
section
set_option linter.unusedVariables false
namespace Fil
theorem swp_swp {α : Type} [DecidableEq α] {p : α → α} {x y : α} (h : x ≠ y) (z : α) : swp (swp p x y) x y z = p z := by
  by_cases h1 : z = x
  · subst h1; rw [swp_x, swp_y h]
  · by_cases h2 : z = y
    · subst h2; rw [swp_y h, swp_x]
    · rw [swp_o h1 h2, swp_o h1 h2]
end Fil
end
section
set_option linter.unusedVariables false
namespace Fil
variable {l : List (Nat × Nat)} {R : Nat → List Nat} {c : List Nat}
def onS (S : List (Nat × Nat)) (d : Nat × Nat) : Prop := d ∈ S ∨ rev d ∈ S
instance (S : List (Nat × Nat)) (d : Nat × Nat) : Decidable (onS S d) := inferInstanceAs (Decidable (_ ∨ _))
theorem nodup_flat {α : Type} {C : List (List α)} : C.flatten.Nodup ↔ (∀ l ∈ C, l.Nodup) ∧ C.Pairwise fun a b => ∀ x ∈ a, x ∉ b := by
  rw [List.Nodup, List.pairwise_flatten]
  constructor
  · rintro ⟨h1, h2⟩
    exact ⟨h1, h2.imp fun {a b} h x hx hy => h x hx x hy rfl⟩
  · rintro ⟨h1, h2⟩
    exact ⟨h1, h2.imp fun {a b} h x hx y hy e => h x hx (by rw [e]; exact hy)⟩
end Fil
end
