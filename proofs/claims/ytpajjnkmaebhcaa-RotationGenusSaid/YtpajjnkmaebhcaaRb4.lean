/- Of RotationGenus RotationDarts: part 4: what the walks rest on, contracts of functions and plain lemmas; no condition but those that each states. -/
import Derived.Test.YtpajjnkmaebhcaaRb3
import Derived.ProofKit
import Derived.Deep.Slices
import Derived.Deep.Strs
import Derived.Lib.SmallJoins
import Derived.ChangeSlices
import Derived.SizedLaws
import Derived.Laws.StructEq
set_option linter.unusedVariables false
set_option linter.unusedSimpArgs false
section
set_option linter.unusedVariables false
namespace Fil
theorem getD_setN (l : List Nat) (i x j : Nat) : (l.set i x).getD j 0 = if i = j ∧ i < l.length then x else l.getD j 0 := by
  rw [List.getD_eq_getElem?_getD, List.getElem?_set, List.getD_eq_getElem?_getD]
  by_cases h : i = j
  · subst h
    rw [if_pos rfl]
    by_cases h2 : i < l.length
    · rw [if_pos h2, if_pos ⟨rfl, h2⟩]; rfl
    · rw [if_neg h2, if_neg (fun h => h2 h.2), List.getElem?_eq_none (by omega)]
  · rw [if_neg h, if_neg (fun h' => h h'.1)]
theorem flat_le {α : Type} : ∀ {C : List (List α)}, (∀ l ∈ C, l ≠ []) → C.length ≤ C.flatten.length
  | [], _ => Nat.le_refl _
  | l :: C, h => by
    have h1 := flat_le (C := C) fun l hl => h l (.tail _ hl)
    have h2 := List.length_pos_iff.2 (h l (.head _))
    rw [List.flatten_cons, List.length_append, List.length_cons]; omega
end Fil
namespace Go.Sl
open Go Go.RowKit Fil
theorem iV_set (l : List Int) (k : Nat) (x : Int) : (iV l).set (k * 1) (.int .i64 x) = iV (l.set k x) := by rw [Nat.mul_one, iV, iV, List.map_set]
end Go.Sl
namespace Go.Proofs.Ytpajjnkmaebhcaa
open Go.RowKit Go.Sl Fil
set_option maxRecDepth 100000
set_option maxHeartbeats 8000000
set_option linter.unusedVariables false
set_option linter.unusedSimpArgs false
attribute [local irreducible] Code.wp wpList bodyPost wpQuiet Exit.then Exit.inBlock Post wpAnyH wpOp
theorem rotEuler_ok (n : Int) (v : Value) (es : List E) (vr : Value) (hr0 : List Value) (R : List (List Nat)) (w : World) (hs : Shp v es.length) (hr : RO w No v (esV es)) (hG : RightG n es) (hR : ROs w No vr hr0 R) (hRot : RotL n.toNat (tn es) R) :
    Calls Try.prog 19 #[.agg #[.int .i64 n, v], vr] w (Post w No fun r L' => ∃ (vo : Value) (o lab : Nat → Nat), Lev n.toNat (nb (tn es)) o lab ∧ r = .tuple #[vo, .int .i64 0] ∧ L' = [rowHP vo 3 1 (compsS n.toNat lab).length (iV (eulerL n.toNat (tn es) lab (facesR n.toNat (tn es) R)))]) := by
  have hsr := hR.shp
  have hrr := hR.ro
  have hlo := hG.lo
  have hhi := hG.hi
  have hmany := hG.many
  have hRl := hRot.len
  refine enter0 (vs := [_, _]) Try.func19 rfl Try.ntmps19 rfl ?_
  repeat' first
    | refine k_then ?_
    | refine c_seq ?_
    | refine c_region ?_
    | refine s_nil ?_
    | refine s_move (by exact rfl) (by exact rfl) ?_
    | refine s_assign (by exact rfl) (by exact rfl) ?_
    | refine s_ldk_box (by exact rfl) (by exact rfl) (by exact .head _) (by exact rfl) (by exact rfl) ?_
    | refine o_box (by exact rfl) (by exact rfl) (fun b => ?_)
  refine o_call (by exact rfl) (by exact rfl) (fun w h => rotFaces_ok n v es vr hr0 R w hs (ro_old h hr) hG (ros_old h hR) hRot) ?_
  rintro _ _ ⟨vf, hf, rfl, hfl, rfl⟩
  repeat' first
    | refine k_then ?_
    | refine c_seq ?_
    | refine c_region ?_
    | refine s_nil ?_
    | refine s_move (by exact rfl) (by exact rfl) ?_
    | refine s_assign (by exact rfl) (by exact rfl) ?_
    | refine s_fa (by exact rfl) (by exact rfl) ?_
    | refine s_ld_box (by exact rfl) (by exact rfl) (by exact .tail _ (.tail _ (.head _))) (by exact rfl) ?_
    | refine s_neq (by exact rfl) (by exact rfl) (by exact rfl) ?_
    | refine s_extract (by exact rfl) (by exact rfl) (by exact rfl) ?_
    | refine c_skip ?_
    | (refine c_cond_p (by exact rfl) (fun h => ?_) (fun h => ?_) <;> try (exfalso; omega))
  refine o_make (by exact rfl) (by exact rfl) (by exact rfl) (by omega) (by omega) fun vm hvm => ?_
  repeat' first
    | refine k_then ?_
    | refine c_seq ?_
    | refine c_region ?_
    | refine s_nil ?_
    | refine s_assign (by exact rfl) (by exact rfl) ?_
    | refine s_ldk_box (by exact rfl) (by exact rfl) (by exact .tail _ (.tail _ (.tail _ (.head _)))) (by exact rfl) (by exact rfl) ?_
  refine o_call (by exact rfl) (by exact rfl) (fun w h => Components_ok n v es w hs (ro_old h hr) hG) ?_
  rintro vc _ ⟨met, bout, lab, hc, hB, hcl, rfl⟩
  have hLev := hB.lev
  rw [hB.comps] at hcl ⊢
  have hone : ∀ u, u < n.toNat → ∃ a c, (compsS n.toNat lab)[a]? = some c ∧ u ∈ c ∧ ∀ (b : Nat) x, (compsS n.toNat lab)[b]? = some x → (u ∈ x ↔ b = a) := fun u hu => comp_one hLev hu
  have hcN : (compsS n.toNat lab).length ≤ n.toNat := compsI_length _ _ lab
  have hcl2 : ∀ c ∈ compsS n.toNat lab, c.length ≤ n.toNat ∧ ∀ u ∈ c, u < n.toNat := fun c hc => by
    obtain ⟨r, h1, h2, rfl⟩ := comp_mem hc
    refine ⟨by have := List.length_filter_le (fun u => lab u == r) (List.range n.toNat); simpa using this, fun u hu => ?_⟩
    simpa using (List.mem_filter.1 hu).1
  have hdec := facesR_dec hG hRot
  have hFne : ∀ f ∈ facesR n.toNat (tn es) R, ∃ d t, f = d :: t ∧ d.1 < n.toNat := fun f hf => by
    cases f with
    | nil => exact absurd rfl (hdec.cy _ hf).1
    | cons d t => exact ⟨d, t, rfl, (dart_lt hG (hdec.perm.mem_iff.1 (List.mem_flatten.2 ⟨_, hf, .head _⟩))).1⟩
  have hFl : (facesR n.toNat (tn es) R).length ≤ 2 * es.length := by
    have h1 := flat_le (C := facesR n.toNat (tn es) R) fun f hf => (hdec.cy f hf).1
    have h2 := hdec.perm.length_eq
    rw [dartsAll_length hG] at h2
    omega
  generalize facesR n.toNat (tn es) R = Fs at *
  generalize hcs : compsS n.toNat lab = cs at *
  refine know_row (v := vc) (.head _) fun hvc _ => ?_
  refine know_row (v := vf) (by exact .tail _ (.tail _ (.tail _ (.head _)))) fun hvf _ => ?_
  repeat' first
    | refine k_then ?_
    | refine c_seq ?_
    | refine c_region ?_
    | refine s_nil ?_
    | refine s_move (by exact rfl) (by exact rfl) ?_
    | refine s_assign (by exact rfl) (by exact rfl) ?_
    | refine s_len (by exact rfl) (by exact rfl) (by assumption) ?_
  refine o_make (by exact rfl) (by exact rfl) (by exact rfl) (by omega) (by omega) fun vo hvo => ?_
  repeat' first
    | refine k_then ?_
    | refine c_seq ?_
    | refine c_region ?_
    | refine s_nil ?_
    | refine s_move (by exact rfl) (by exact rfl) ?_
    | refine s_assign (by exact rfl) (by exact rfl) ?_
    | refine s_len (by exact rfl) (by exact rfl) (by assumption) ?_
    | refine c_block ?_
  generalize hN : n.toNat = N at *
  have hnN : n = (N : Int) := by omega
  refine c_loop (fun x : Nat × List Nat => x.1 ≤ cs.length ∧ x.2.length = N ∧ ∀ (a : Nat) c, cs[a]? = some c → a < x.1 → ∀ u ∈ c, x.2.getD u 0 = a)
    (fun x => [(2, .pointer (some ⟨b, 0, none⟩)), (6, vf), (8, vm), (9, vc), (10, vo), (36, vc), (37, .int .i64 (cs.length : Int)), (38, .int .i64 (x.1 : Int))])
    (fun x => [rowHP vo 3 1 cs.length (iV (baseL cs x.1)), rowHP vm 3 1 N (nV x.2), rowHP vc 36 1 cs.length hc, starHP (kids rowN hc cs), rowHP vf 41 1 Fs.length hf, starHP (kids rowD hf Fs), boxHP b 24 [.int .i64 n, v]])
    (fun x => cs.length - x.1) (0, List.replicate N 0) [0, 2, 0, 0, 0, 0, 0] ⟨Nat.zero_le _, by simp, fun a c _ h => by simp at h⟩ ?_ ⟨rfl, rfl, rfl, rfl, rfl, rfl, rfl, rfl, trivial⟩ ?_
  · have z1 : (madeCells (Value.int .i64 0).cells (N * 1)).toList = nV (List.replicate N 0) := by rw [made1 rfl]; simp [nV]
    have z2 : (madeCells (Value.int .i64 0).cells ((cs.length : Int).toNat * 1)).toList = iV (baseL cs 0) := by rw [made1 rfl, baseL_zero]; simp [iV]
    rw [z1, z2]
    exact rfl
  rintro ⟨i, y⟩ ⟨hi, hyl, hy⟩
  dsimp only at hi hyl hy ⊢
  by_cases hil : i < cs.length
  · obtain ⟨c, hci⟩ : ∃ c, cs[i]? = some c := ⟨_, List.getElem?_eq_getElem hil⟩
    obtain ⟨hd, hhd⟩ : ∃ hd, hc[i]? = some hd := ⟨_, List.getElem?_eq_getElem (by omega)⟩
    have hhd1 : hc[i * 1]? = some hd := by rw [Nat.mul_one]; exact hhd
    obtain ⟨hcl3, hclt⟩ := hcl2 c (List.mem_of_getElem? hci)
    have hbs := baseL_set hci
    have hbl := baseL_length hi
    have hkd : rowHP hd 3 1 c.length (nV c) ∈ kids rowN hc cs := kids_mem (f := rowN) hhd hci
    repeat' first
      | refine k_then ?_
      | refine c_seq ?_
      | refine c_region ?_
      | refine s_nil ?_
      | refine s_move (by exact rfl) (by exact rfl) ?_
      | refine s_assign (by exact rfl) (by exact rfl) ?_
      | refine s_lss (by exact rfl) (by exact rfl) (by exact rfl) ?_
      | refine s_idx (by exact rfl) (by exact rfl) (by exact rfl) (by assumption) (by first | assumption | omega) ?_
      | refine s_ld_row (by exact rfl) (by exact rfl) (by exact .tail _ (.tail _ (.head _))) (by assumption) ?_
      | refine c_block ?_
      | refine c_skip ?_
      | (refine c_cond_p (by exact rfl) (fun h => ?_) (fun h => ?_) <;> try (exfalso; omega))
    refine know_kid (by exact .tail _ (.tail _ (.tail _ (.head _)))) hkd fun hsd _ => ?_
    repeat' first
      | refine s_len (by exact rfl) (by exact rfl) (by assumption) ?_
      | refine s_idx (by exact rfl) (by exact rfl) (by exact rfl) (by assumption) (by first | assumption | omega) ?_
    refine o_st_row (i := 0) (by exact rfl) (by exact rfl) (by exact rfl) rfl (by omega) ?_
    rw [iV_set]
    refine s_nil ?_
    refine k_then ?_
    refine c_seq ?_
    refine c_join (X := Unit) (fun _ => [(2, .pointer (some ⟨b, 0, none⟩)), (6, vf), (8, vm), (9, vc), (10, vo), (11, .int .i64 (i : Int)), (12, hd), (36, vc), (37, .int .i64 (cs.length : Int)), (38, .int .i64 (i : Int))]) (fun _ => [rowHP vo 3 1 cs.length (iV (baseL cs (i + 1))), rowHP vm 3 1 N (nV y), rowHP vc 36 1 cs.length hc, starHP (kids rowN hc cs), rowHP vf 41 1 Fs.length hf, starHP (kids rowD hf Fs), boxHP b 24 [.int .i64 n, v]]) (fun K hk => ?_) (fun _ => ?_)
    · repeat' first
        | refine k_then ?_
        | refine c_seq ?_
        | refine c_region ?_
        | refine s_nil ?_
        | refine s_move (by exact rfl) (by exact rfl) ?_
        | refine s_eql (by exact rfl) (by exact rfl) (by exact rfl) ?_
        | refine s_len (by exact rfl) (by exact rfl) (by assumption) ?_
        | refine s_idx (by exact rfl) (by exact rfl) (by exact rfl) (by assumption) (by first | assumption | omega) ?_
        | refine c_skip ?_
        | (refine c_cond_p (by exact rfl) (fun h => ?_) (fun h => ?_) <;> try (exfalso; omega))
      · refine o_st_row (i := 0) (by exact rfl) (by exact rfl) (by exact rfl) rfl (by omega) ?_
        rw [iV_set]
        repeat' first
          | refine k_then ?_
          | refine s_nil ?_
        refine j_end hk () [0, 0, 0, 0, 0, 0, 0] ?_ ⟨rfl, rfl, rfl, rfl, rfl, rfl, rfl, rfl, rfl, rfl, trivial⟩
        rw [← hbs, baseK, if_pos (by omega), show ((baseL cs i).set i (c.length : Int)).set i 2 = (baseL cs i).set i 2 from List.set_set ..]
        exact rfl
      · refine j_end hk () [0, 0, 0, 0, 0, 0, 0] ?_ ⟨rfl, rfl, rfl, rfl, rfl, rfl, rfl, rfl, rfl, rfl, trivial⟩
        rw [← hbs, baseK, if_neg (by omega)]
        exact rfl
    · repeat' first
        | refine k_then ?_
        | refine c_seq ?_
        | refine c_region ?_
        | refine s_nil ?_
        | refine s_move (by exact rfl) (by exact rfl) ?_
        | refine s_len (by exact rfl) (by exact rfl) (by assumption) ?_
        | refine c_block ?_
      refine c_loop (fun x : Nat × List Nat => x.1 ≤ c.length ∧ x.2.length = N ∧ (∀ (a : Nat) c', cs[a]? = some c' → a < i → ∀ u ∈ c', x.2.getD u 0 = a) ∧ ∀ u ∈ c.take x.1, x.2.getD u 0 = i)
        (fun x => [(2, .pointer (some ⟨b, 0, none⟩)), (6, vf), (8, vm), (9, vc), (10, vo), (11, .int .i64 (i : Int)), (36, vc), (37, .int .i64 (cs.length : Int)), (38, .int .i64 (i : Int)), (54, hd), (55, .int .i64 (c.length : Int)), (56, .int .i64 (x.1 : Int))])
        (fun x => [rowHP vo 3 1 cs.length (iV (baseL cs (i + 1))), rowHP vm 3 1 N (nV x.2), rowHP vc 36 1 cs.length hc, starHP (kids rowN hc cs), rowHP vf 41 1 Fs.length hf, starHP (kids rowD hf Fs), boxHP b 24 [.int .i64 n, v]])
        (fun x => c.length - x.1) (0, y) [0, 0, 0, 0, 0, 0, 0] ⟨Nat.zero_le _, hyl, hy, by simp⟩ (by exact rfl) ⟨rfl, rfl, rfl, rfl, rfl, rfl, rfl, rfl, rfl, rfl, rfl, rfl, trivial⟩ ?_
      rintro ⟨j, z⟩ ⟨hj, hzl, hz1, hz2⟩
      dsimp only at hj hzl hz1 hz2 ⊢
      by_cases hjl : j < c.length
      · have hcj := nV_get hjl
        have hcm : c.getD j 0 ∈ c := by rw [List.getD_eq_getElem?_getD, List.getElem?_eq_getElem hjl]; exact List.getElem_mem _
        have hcu := hclt _ hcm
        repeat' first
          | refine k_then ?_
          | refine c_seq ?_
          | refine c_region ?_
          | refine s_nil ?_
          | refine s_move (by exact rfl) (by exact rfl) ?_
          | refine s_assign (by exact rfl) (by exact rfl) ?_
          | refine s_lss (by exact rfl) (by exact rfl) (by exact rfl) ?_
          | refine s_idx (by exact rfl) (by exact rfl) (by exact rfl) (by assumption) (by first | assumption | omega) ?_
          | refine s_ld_kid (by exact rfl) (by exact rfl) (by assumption) (by exact .tail _ (.tail _ (.tail _ (.head _)))) (by assumption) ?_
          | refine c_block ?_
          | refine c_skip ?_
          | (refine c_cond_p (by exact rfl) (fun h => ?_) (fun h => ?_) <;> try (exfalso; omega))
        refine o_st_row (i := 1) (by exact rfl) (by exact rfl) (by exact rfl) rfl (by omega) ?_
        rw [nV_set]
        repeat' first
          | refine k_then ?_
          | refine c_region ?_
          | refine s_nil ?_
          | refine s_move (by exact rfl) (by exact rfl) ?_
          | refine s_add (by exact rfl) (by exact rfl) (by exact rfl) (by omega) ?_
          | refine k_blk ?_
        refine c_round (j + 1, z.set (c.getD j 0) i) [0, 0, 0, 0, 0, 0, 0] (by exact rfl) ⟨rfl, rfl, rfl, rfl, rfl, rfl, rfl, rfl, rfl, rfl, rfl, rfl, trivial⟩ ⟨by dsimp only; omega, by dsimp only; rw [List.length_set]; exact hzl, fun a c' ha hai u hu => ?_, fun u hu => ?_⟩ (by dsimp only; omega)
        · dsimp only
          rw [getD_setN]
          split
          · exfalso
            rename_i he
            obtain ⟨a0, c0, h1, h2, h3⟩ := hone u ((hcl2 c' (List.mem_of_getElem? ha)).2 u hu)
            have e1 := (h3 a c' ha).1 hu
            have e2 := (h3 i c hci).1 (he.1 ▸ hcm)
            omega
          · exact hz1 a c' ha hai u hu
        · dsimp only at hu ⊢
          rw [getD_setN]
          split
          · rfl
          · rename_i he
            rw [List.take_add_one, List.getElem?_eq_getElem hjl] at hu
            rcases List.mem_append.1 hu with hu | hu
            · exact hz2 u hu
            · exfalso
              obtain rfl : u = c[j] := by simpa using hu
              refine he ⟨?_, by rw [hzl]; exact hcu⟩
              rw [List.getD_eq_getElem?_getD, List.getElem?_eq_getElem hjl]; rfl
      · repeat' first
          | refine k_then ?_
          | refine c_seq ?_
          | refine c_region ?_
          | refine s_nil ?_
          | refine s_move (by exact rfl) (by exact rfl) ?_
          | refine s_lss (by exact rfl) (by exact rfl) (by exact rfl) ?_
          | refine s_add (by exact rfl) (by exact rfl) (by exact rfl) (by omega) ?_
          | refine c_exit ?_
          | refine k_then_exit ?_
          | refine k_blk ?_
          | refine k_blk_eq ?_
          | (refine c_cond_p (by exact rfl) (fun h => ?_) (fun h => ?_) <;> try (exfalso; omega))
        rw [List.take_of_length_le (by omega)] at hz2
        refine c_round (i + 1, z) [0, 0, 0, 0, 0, 0, 0] (by exact rfl) ⟨rfl, rfl, rfl, rfl, rfl, rfl, rfl, rfl, trivial⟩ ⟨by dsimp only; omega, hzl, fun a c' ha hai u hu => ?_⟩ (by dsimp only; omega)
        by_cases hai2 : a < i
        · exact hz1 a c' ha hai2 u hu
        · obtain rfl : a = i := by dsimp only at hai; omega
          rw [hci] at ha
          obtain rfl := Option.some.inj ha
          exact hz2 u hu
  · repeat' first
      | refine k_then ?_
      | refine c_seq ?_
      | refine c_region ?_
      | refine s_nil ?_
      | refine s_move (by exact rfl) (by exact rfl) ?_
      | refine s_fa (by exact rfl) (by exact rfl) ?_
      | refine s_ld_box (by exact rfl) (by exact rfl) (by exact .tail _ (.tail _ (.tail _ (.tail _ (.tail _ (.tail _ (.head _))))))) (by exact rfl) ?_
      | refine s_lss (by exact rfl) (by exact rfl) (by exact rfl) ?_
      | refine s_len (by exact rfl) (by exact rfl) (by assumption) ?_
      | refine c_block ?_
      | refine c_exit ?_
      | refine k_then_exit ?_
      | refine k_blk_eq ?_
      | (refine c_cond_p (by exact rfl) (fun h => ?_) (fun h => ?_) <;> try (exfalso; omega))
    obtain rfl : i = cs.length := by omega
    rw [baseL_all, ← eulE_zero (tn es)]
    have hat : ∀ u, u < N → ∃ (a : Nat) (c : List Nat), cs[a]? = some c ∧ (nV y)[u * 1]? = some (.int .i64 (a : Int)) ∧ a < cs.length ∧ c.length ≤ N ∧ ∀ (b : Nat) x, cs[b]? = some x → (u ∈ x ↔ b = a) := fun u hu => by
      obtain ⟨a, c, h1, h2, h3⟩ := hone u hu
      have h4 := (List.getElem?_eq_some_iff.1 h1).1
      refine ⟨a, c, h1, ?_, h4, (hcl2 c (List.mem_of_getElem? h1)).1, h3⟩
      rw [nV_get (by omega), hy a c h1 h4 u h2]
    refine c_loop (fun k : Nat => k ≤ es.length) (fun k => [(2, .pointer (some ⟨b, 0, none⟩)), (6, vf), (8, vm), (10, vo), (67, v), (68, .int .i64 (es.length : Int)), (69, .int .i64 (k : Int))])
      (fun k => [rowHP vo 3 1 cs.length (iV (cs.map (eulE (tn es) k))), rowHP vm 3 1 N (nV y), rowHP vf 41 1 Fs.length hf, starHP (kids rowD hf Fs)])
      (fun k => es.length - k) 0 [0, 0, 2, 2] (Nat.zero_le _) (by exact rfl) ⟨rfl, rfl, rfl, rfl, rfl, rfl, rfl, trivial⟩ ?_
    rintro k hk
    by_cases hlt : k < es.length
    · obtain ⟨e, he⟩ : ∃ e, es[k]? = some e := ⟨_, List.getElem?_eq_getElem hlt⟩
      have hE := esV_at he
      obtain ⟨o1, o2, o3, o4, _⟩ := hG.ok e (List.mem_of_getElem? he)
      obtain ⟨a, c, h1, h2, h3, h4, h5⟩ := hat e.1.toNat (by omega)
      have het : (tn es)[k]? = some (e.1.toNat, e.2.1.toNat) := by rw [tn, List.getElem?_map, he]; rfl
      have hst := eulE_step het h1 h5
      have hbd := eulE_bound (tn es) k c
      rw [tn_len] at hbd
      have hgx : (iV (cs.map (eulE (tn es) k)))[a * 1]? = some (.int .i64 (eulE (tn es) k c)) := by
        rw [Nat.mul_one, iV, List.getElem?_map, List.getElem?_map, h1]; rfl
      repeat' first
        | refine k_then ?_
        | refine c_seq ?_
        | refine c_region ?_
        | refine s_nil ?_
        | refine s_lss (by exact rfl) (by exact rfl) (by exact rfl) ?_
        | refine s_idx (by exact rfl) (by exact rfl) (by exact rfl) (by assumption) (by first | assumption | omega) ?_
        | refine s_ldk_ro (by exact rfl) (by exact rfl) (by assumption) (by decide) (by assumption) (by exact rfl) ?_
        | refine o_alloc (by exact rfl) (fun b => ?_)
        | refine c_block ?_
        | refine c_skip ?_
        | (refine c_cond_p (by exact rfl) (fun h => ?_) (fun h => ?_) <;> try (exfalso; omega))
      refine o_stk_box (i := 0) (us := eV e) (by exact rfl) (by exact rfl) (by exact rfl) (by exact rfl) (by exact rfl) (by simp [eV, Value.oneCell']) (by simp [Value.cells]) ?_
      repeat' first
        | refine k_then ?_
        | refine c_region ?_
        | refine s_nil ?_
        | refine s_move (by exact rfl) (by exact rfl) ?_
        | refine s_fa (by exact rfl) (by exact rfl) ?_
        | refine s_ld_box (by exact rfl) (by exact rfl) (by exact .head _) (by exact rfl) ?_
        | refine s_sub (by exact rfl) (by exact rfl) (by exact rfl) (by omega) ?_
        | refine s_idx (by exact rfl) (by exact rfl) (by exact rfl) (by assumption) (by first | assumption | omega) ?_
        | refine s_idxi (by exact rfl) (by exact rfl) (by exact rfl) (by assumption) (by first | assumption | omega) ?_
        | refine s_ld_row (by exact rfl) (by exact rfl) (by first | exact .tail _ (.head _) | exact .tail _ (.tail _ (.head _))) (by assumption) ?_
      refine o_st_row (i := 1) (by exact rfl) (by exact rfl) (by exact rfl) rfl (by omega) ?_
      rw [iV_set]
      repeat' first
        | refine k_then ?_
        | refine c_region ?_
        | refine s_nil ?_
        | refine s_move (by exact rfl) (by exact rfl) ?_
        | refine s_add (by exact rfl) (by exact rfl) (by exact rfl) (by omega) ?_
        | refine k_blk ?_
      refine c_round (k + 1) [1, 1, 1, 1] (by rw [← hst]; exact rfl) ⟨rfl, rfl, rfl, rfl, rfl, rfl, rfl, trivial⟩ (by omega) (by omega)
    · repeat' first
        | refine k_then ?_
        | refine c_seq ?_
        | refine c_region ?_
        | refine s_nil ?_
        | refine s_move (by exact rfl) (by exact rfl) ?_
        | refine s_lss (by exact rfl) (by exact rfl) (by exact rfl) ?_
        | refine s_len (by exact rfl) (by exact rfl) (by assumption) ?_
        | refine c_block ?_
        | refine c_exit ?_
        | refine k_then_exit ?_
        | refine k_blk_eq ?_
        | (refine c_cond_p (by exact rfl) (fun h => ?_) (fun h => ?_) <;> try (exfalso; omega))
      obtain rfl : k = es.length := by omega
      rw [← tn_len es, ← eulF_zero (tn es) Fs]
      refine c_loop (fun k : Nat => k ≤ Fs.length) (fun k => [(8, vm), (10, vo), (84, vf), (85, .int .i64 (Fs.length : Int)), (86, .int .i64 (k : Int))])
        (fun k => [rowHP vo 3 1 cs.length (iV (cs.map (eulF (tn es) Fs k))), rowHP vm 3 1 N (nV y), rowHP vf 41 1 Fs.length hf, starHP (kids rowD hf Fs)])
        (fun k => Fs.length - k) 0 [0, 0, 0, 0] (Nat.zero_le _) (by exact rfl) ⟨rfl, rfl, rfl, rfl, rfl, trivial⟩ ?_
      rintro k hk
      by_cases hlt : k < Fs.length
      · obtain ⟨f, hf1⟩ : ∃ f, Fs[k]? = some f := ⟨_, List.getElem?_eq_getElem hlt⟩
        obtain ⟨hd, hhd⟩ : ∃ hd, hf[k]? = some hd := ⟨_, List.getElem?_eq_getElem (by omega)⟩
        have hhd1 : hf[k * 1]? = some hd := by rw [Nat.mul_one]; exact hhd
        obtain ⟨d, t, rfl, hdN⟩ := hFne f (List.mem_of_getElem? hf1)
        obtain ⟨a, c, h1, h2, h3, h4, h5⟩ := hat d.1 hdN
        have hst := eulF_step (l := tn es) hf1 h1 h5
        have hbd := eulF_bound (tn es) Fs k c
        rw [tn_len] at hbd
        have hgx : (iV (cs.map (eulF (tn es) Fs k)))[a * 1]? = some (.int .i64 (eulF (tn es) Fs k c)) := by
          rw [Nat.mul_one, iV, List.getElem?_map, List.getElem?_map, h1]; rfl
        have hkd : rowHP hd 43 2 (d :: t).length (dsV (d :: t)) ∈ kids rowD hf Fs := kids_mem (f := rowD) hhd hf1
        have hd0 : (dsV (d :: t))[0 * 2 + 0]? = some (.int .i64 (d.1 : Int)) := rfl
        have hpos : 0 < (d :: t).length := by simp
        repeat' first
          | refine k_then ?_
          | refine c_seq ?_
          | refine c_region ?_
          | refine s_nil ?_
          | refine s_move (by exact rfl) (by exact rfl) ?_
          | refine s_assign (by exact rfl) (by exact rfl) ?_
          | refine s_lss (by exact rfl) (by exact rfl) (by exact rfl) ?_
          | refine s_idx (by exact rfl) (by exact rfl) (by exact rfl) (by assumption) (by first | assumption | omega) ?_
          | refine s_ld_row (by exact rfl) (by exact rfl) (by exact .tail _ (.tail _ (.head _))) (by assumption) ?_
          | refine c_block ?_
          | refine c_skip ?_
          | (refine c_cond_p (by exact rfl) (fun h => ?_) (fun h => ?_) <;> try (exfalso; omega))
        refine know_kid (by exact .tail _ (.tail _ (.tail _ (.head _)))) hkd fun hsd _ => ?_
        repeat' first
          | refine s_add (by exact rfl) (by exact rfl) (by exact rfl) (by omega) ?_
          | refine s_idx (by exact rfl) (by exact rfl) (by exact rfl) (by assumption) (by first | assumption | omega) ?_
          | refine s_fap (by exact rfl) (by exact rfl) (by assumption) (by omega) ?_
          | refine s_ld_row (by exact rfl) (by exact rfl) (by first | exact .head _ | exact .tail _ (.head _)) (by assumption) ?_
          | refine s_ld_kid (by exact rfl) (by exact rfl) (by assumption) (by exact .tail _ (.tail _ (.tail _ (.head _)))) (by assumption) ?_
        refine o_st_row (i := 0) (by exact rfl) (by exact rfl) (by exact rfl) rfl (by omega) ?_
        rw [iV_set]
        repeat' first
          | refine k_then ?_
          | refine c_region ?_
          | refine s_nil ?_
          | refine s_move (by exact rfl) (by exact rfl) ?_
          | refine s_add (by exact rfl) (by exact rfl) (by exact rfl) (by omega) ?_
          | refine k_blk ?_
        refine c_round (k + 1) [0, 0, 0, 0] (by rw [← hst]; exact rfl) ⟨rfl, rfl, rfl, rfl, rfl, trivial⟩ (by omega) (by omega)
      · repeat' first
          | refine k_then ?_
          | refine c_seq ?_
          | refine c_region ?_
          | refine s_nil ?_
          | refine s_move (by exact rfl) (by exact rfl) ?_
          | refine s_assign (by exact rfl) (by exact rfl) ?_
          | refine s_lss (by exact rfl) (by exact rfl) (by exact rfl) ?_
          | refine c_exit ?_
          | refine c_ret ?_
          | refine k_then_exit ?_
          | refine k_blk_eq ?_
          | (refine c_cond_p (by exact rfl) (fun h => ?_) (fun h => ?_) <;> try (exfalso; omega))
        obtain rfl : k = Fs.length := by omega
        rw [eulF_all]
        refine retL [.tmp 4, .tmp 5] [vo, .int .i64 0] [0] rfl ⟨res_tmp rfl, res_tmp rfl, trivial⟩ (by exact rfl) ⟨vo, _, lab, hLev, rfl, ?_⟩
        rw [eulerL, hcs]
end Go.Proofs.Ytpajjnkmaebhcaa
end
section
set_option linter.unusedVariables false
namespace Fil
theorem lev_comps {N : Nat} {A : Nat → List Nat} {o o' lab lab' : Nat → Nat} (h : Lev N A o lab) (h' : Lev N A o' lab') : compsS N lab = compsS N lab' := compsS_congr (h.lab_eq h')
theorem lev_euler {N : Nat} {A : Nat → List Nat} {l : List (Nat × Nat)} {F : List (List (Nat × Nat))} {o o' lab lab' : Nat → Nat} (h : Lev N A o lab) (h' : Lev N A o' lab') : eulerL N l lab F = eulerL N l lab' F := by rw [eulerL, eulerL, lev_comps h h']
/-- is it in the plane -/
def planeR (N : Nat) (l : List (Nat × Nat)) (lab : Nat → Nat) (R : List (List Nat)) : Int := if (eulerL N l lab (facesR N l R)).any (fun x => decide (x ≠ 2)) then 12 else 0
end Fil
namespace Go.Proofs.Ytpajjnkmaebhcaa
open Go.RowKit Go.Sl Fil
set_option maxRecDepth 100000
set_option maxHeartbeats 8000000
set_option linter.unusedVariables false
set_option linter.unusedSimpArgs false
attribute [local irreducible] Code.wp wpList bodyPost wpQuiet Exit.then Exit.inBlock Post wpAnyH wpOp
theorem indexFI_ok (v : Value) (l : List Int) (f : FuncId) (caps : List Value) (p : Int → Bool) (w : World) [FnTy Try.prog f] (hs : Shp v l.length) (hr : RO w No v (iV l))
    (hcl : ∀ (k : Nat) e, l[k]? = some e → ∀ w' S', Mod w No w' S' → Calls Try.prog f ([Value.int .i64 e] ++ caps).toArray w' (Post w' No (Just (.bool (p e))))) :
    Calls Try.prog 75 #[v, .func (.func f) #[] caps.toArray] w (Post w No (Just (.int .i64 (match l.findIdx? p with | some i => (i : Int) | none => -1)))) := by
  have hm := hs.1
  simp only [maxLen] at hm
  refine enter0 (vs := [_, _]) Try.func75 rfl Try.ntmps75 rfl ?_
  repeat' first
    | refine k_then ?_
    | refine c_seq ?_
    | refine c_region ?_
    | refine s_nil ?_
    | refine s_move (by exact rfl) (by exact rfl) ?_
    | refine s_assign (by exact rfl) (by exact rfl) ?_
    | refine s_len (by exact rfl) (by exact rfl) (by assumption) ?_
    | refine c_block ?_
  refine c_loop (fun k : Nat => k ≤ l.length ∧ ∀ e ∈ l.take k, p e = false) (fun k => [(0, v), (1, .func (.func f) #[] caps.toArray), (6, v), (7, .int .i64 (l.length : Int)), (8, .int .i64 (k : Int))]) (fun _ => []) (fun k => l.length - k) 0 [] ⟨by omega, by simp⟩ rfl ⟨rfl, rfl, rfl, rfl, rfl, trivial⟩ ?_
  rintro k ⟨hk, hq⟩
  by_cases hlt : k < l.length
  · obtain ⟨e, he⟩ : ∃ e, l[k]? = some e := ⟨_, List.getElem?_eq_getElem hlt⟩
    have hE : (iV l)[k * 1]? = some (.int .i64 e) := by rw [Nat.mul_one, iV, List.getElem?_map, he]; rfl
    repeat' first
      | refine k_then ?_
      | refine c_seq ?_
      | refine c_region ?_
      | refine s_nil ?_
      | refine s_move (by exact rfl) (by exact rfl) ?_
      | refine s_assign (by exact rfl) (by exact rfl) ?_
      | refine s_lss (by exact rfl) (by exact rfl) (by exact rfl) ?_
      | refine s_idx (by exact rfl) (by exact rfl) (by exact rfl) (by assumption) (by first | assumption | omega) ?_
      | refine s_ld_ro (by exact rfl) (by exact rfl) (by assumption) (by assumption) ?_
      | refine c_block ?_
      | refine c_skip ?_
      | (refine c_cond_p (by exact rfl) (fun h => ?_) (fun h => ?_) <;> try (exfalso; omega))
    refine s_callv (pre := []) (by exact rfl) (by exact rfl) (by exact rfl) (fun w h => h.mod0.elim fun S' hm => hcl k e he w S' hm) ?_
    cases hp : p e
    · repeat' first
        | refine k_then ?_
        | refine c_region ?_
        | refine s_nil ?_
        | refine s_move (by exact rfl) (by exact rfl) ?_
        | refine s_add (by exact rfl) (by exact rfl) (by exact rfl) (by omega) ?_
        | refine c_skip ?_
        | refine k_blk ?_
        | refine c_cond_f (by exact rfl) ?_
      refine c_round (k + 1) [] (by exact rfl) ⟨rfl, rfl, rfl, rfl, rfl, trivial⟩ ⟨by omega, ?_⟩ (by omega)
      rw [List.take_add_one, he]
      intro a ha
      rcases List.mem_append.1 ha with ha | ha
      · exact hq a ha
      · obtain rfl : a = e := by simpa using ha
        exact hp
    · repeat' first
        | refine k_then ?_
        | refine c_seq ?_
        | refine c_region ?_
        | refine s_nil ?_
        | refine s_move (by exact rfl) (by exact rfl) ?_
        | refine s_assign (by exact rfl) (by exact rfl) ?_
        | refine c_ret ?_
        | refine k_then_ret ?_
        | refine k_blk_ret ?_
        | refine c_cond_t (by exact rfl) ?_
      have hfi : l.findIdx? p = some k := by
        rw [List.findIdx?_eq_some_iff_getElem]
        obtain ⟨h1, h2⟩ := List.getElem?_eq_some_iff.1 he
        refine ⟨h1, by rw [h2]; exact hp, fun j hj => ?_⟩
        rw [hq _ (List.mem_take_iff_getElem.2 ⟨j, by omega, rfl⟩)]
        simp
      refine ret1 [] rfl rfl rfl ⟨by rw [hfi], rfl⟩
  · rw [List.take_of_length_le (by omega)] at hq
    repeat' first
      | refine k_then ?_
      | refine c_seq ?_
      | refine c_region ?_
      | refine s_nil ?_
      | refine s_assign (by exact rfl) (by exact rfl) ?_
      | refine s_lss (by exact rfl) (by exact rfl) (by exact rfl) ?_
      | refine c_exit ?_
      | refine c_ret ?_
      | refine k_then_exit ?_
      | refine k_blk_eq ?_
      | (refine c_cond_p (by exact rfl) (fun h => ?_) (fun h => ?_) <;> try (exfalso; omega))
    refine ret1 [] rfl rfl rfl ⟨by rw [List.findIdx?_eq_none_iff.2 hq], rfl⟩
theorem containsFI_ok (v : Value) (l : List Int) (f : FuncId) (caps : List Value) (p : Int → Bool) (w : World) [FnTy Try.prog f] (hs : Shp v l.length) (hr : RO w No v (iV l))
    (hcl : ∀ (k : Nat) e, l[k]? = some e → ∀ w' S', Mod w No w' S' → Calls Try.prog f ([Value.int .i64 e] ++ caps).toArray w' (Post w' No (Just (.bool (p e))))) :
    Calls Try.prog 49 #[v, .func (.func f) #[] caps.toArray] w (Post w No (Just (.bool (l.any p)))) := by
  refine enter0 (vs := [_, _]) Try.func49 rfl Try.ntmps49 rfl ?_
  repeat' first
    | refine k_then ?_
    | refine c_seq ?_
    | refine c_region ?_
    | refine s_nil ?_
    | refine s_move (by exact rfl) (by exact rfl) ?_
    | refine s_assign (by exact rfl) (by exact rfl) ?_
  refine s_call (by exact rfl) (by exact rfl) (fun w h => h.mod0.elim fun S' hm => indexFI_ok v l f caps p w hs (ro_old h hr) fun k e he w' S2 hm2 => hcl k e he w' _ (mod_trans0 hm hm2)) ?_
  repeat' first
    | refine k_then ?_
    | refine s_nil ?_
    | refine s_assign (by exact rfl) (by exact rfl) ?_
    | refine s_geq (by exact rfl) (by exact rfl) (by exact rfl) ?_
    | refine c_ret ?_
  refine ret1 [] rfl rfl rfl ⟨congrArg Value.bool ?_, rfl⟩
  cases h : l.findIdx? p with
  | none =>
    have := List.findIdx?_eq_none_iff.1 h
    rw [List.any_eq_false.2 (fun x hx => by rw [this x hx]; simp)]
    simp
  | some i =>
    obtain ⟨h1, h2, _⟩ := List.findIdx?_eq_some_iff_getElem.1 h
    rw [List.any_eq_true.2 ⟨_, List.getElem_mem h1, h2⟩]
    simp
theorem plane1_ok (x : Int) (w : World) : Calls Try.prog 50 #[.int .i64 x] w (Post w No (Just (.bool (decide (x ≠ 2))))) := by
  refine enter0 (vs := [_]) Try.func50 rfl Try.ntmps50 rfl ?_
  repeat' first
    | refine k_then ?_
    | refine c_seq ?_
    | refine c_region ?_
    | refine s_nil ?_
    | refine s_move (by exact rfl) (by exact rfl) ?_
    | refine s_assign (by exact rfl) (by exact rfl) ?_
    | refine s_neq (by exact rfl) (by exact rfl) (by exact rfl) ?_
    | refine c_ret ?_
  refine ret1 [] rfl rfl rfl ⟨rfl, rfl⟩
theorem rotEulerL_ok (n : Int) (v : Value) (es : List E) (vr : Value) (hr0 : List Value) (R : List (List Nat)) (o lab : Nat → Nat) (w : World) (hs : Shp v es.length) (hr : RO w No v (esV es)) (hG : RightG n es) (hR : ROs w No vr hr0 R) (hRot : RotL n.toNat (tn es) R) (hL : Lev n.toNat (nb (tn es)) o lab) :
    Calls Try.prog 19 #[.agg #[.int .i64 n, v], vr] w (Post w No fun r L' => ∃ vo : Value, r = .tuple #[vo, .int .i64 0] ∧ L' = [rowHP vo 3 1 (eulerL n.toNat (tn es) lab (facesR n.toNat (tn es) R)).length (iV (eulerL n.toNat (tn es) lab (facesR n.toNat (tn es) R)))]) := by
  refine Calls.mono (rotEuler_ok n v es vr hr0 R w hs hr hG hR hRot) (Post.imp ?_)
  rintro r L' ⟨vo, o', lab', h1, h2, h3⟩
  refine ⟨vo, h2, ?_⟩
  rw [h3, lev_euler h1 hL, eulerL, List.length_map, lev_comps h1 hL]
theorem rotPlane_ok (n : Int) (v : Value) (es : List E) (vr : Value) (hr0 : List Value) (R : List (List Nat)) (o lab : Nat → Nat) (w : World) (hs : Shp v es.length) (hr : RO w No v (esV es)) (hG : RightG n es) (hR : ROs w No vr hr0 R) (hRot : RotL n.toNat (tn es) R) (hL : Lev n.toNat (nb (tn es)) o lab) :
    Calls Try.prog 20 #[.agg #[.int .i64 n, v], vr] w (Post w No (Just (.int .i64 (planeR n.toNat (tn es) lab R)))) := by
  have hsr := hR.shp
  have hrr := hR.ro
  refine enter0 (vs := [_, _]) Try.func20 rfl Try.ntmps20 rfl ?_
  repeat' first
    | refine k_then ?_
    | refine c_seq ?_
    | refine c_region ?_
    | refine s_nil ?_
    | refine s_move (by exact rfl) (by exact rfl) ?_
    | refine s_assign (by exact rfl) (by exact rfl) ?_
    | refine s_ldk_box (by exact rfl) (by exact rfl) (by exact .head _) (by exact rfl) (by exact rfl) ?_
    | refine o_box (by exact rfl) (by exact rfl) (fun b => ?_)
  refine o_call (by exact rfl) (by exact rfl) (fun w h => rotEulerL_ok n v es vr hr0 R o lab w hs (ro_old h hr) hG (ros_old h hR) hRot hL) ?_
  rintro _ _ ⟨vo, rfl, rfl⟩
  refine know_row (v := vo) (.head _) fun hvo _ => ?_
  repeat' first
    | refine k_then ?_
    | refine c_seq ?_
    | refine c_region ?_
    | refine s_nil ?_
    | refine s_move (by exact rfl) (by exact rfl) ?_
    | refine s_assign (by exact rfl) (by exact rfl) ?_
    | refine s_neq (by exact rfl) (by exact rfl) (by exact rfl) ?_
    | refine s_extract (by exact rfl) (by exact rfl) (by exact rfl) ?_
    | refine c_block ?_
    | (refine c_cond_p (by exact rfl) (fun h => ?_) (fun h => ?_) <;> try (exfalso; omega))
  refine s_call (by exact rfl) (by exact rfl) (fun w h => containsFI_ok vo (eulerL n.toNat (tn es) lab (facesR n.toNat (tn es) R)) 50 [] (fun x => decide (x ≠ 2)) w hvo (ro_own h (.head _)) fun k e _ w' S' hm => plane1_ok e w') ?_
  unfold planeR
  cases (eulerL n.toNat (tn es) lab (facesR n.toNat (tn es) R)).any fun x => decide (x ≠ 2) with
  | true =>
    repeat' first
      | refine k_then ?_
      | refine c_seq ?_
      | refine c_region ?_
      | refine s_nil ?_
      | refine s_assign (by exact rfl) (by exact rfl) ?_
      | refine c_ret ?_
      | refine k_then_ret ?_
      | refine k_blk_ret ?_
      | refine c_cond_t (by exact rfl) ?_
    refine ret1 [] rfl rfl rfl ⟨rfl, rfl⟩
  | false =>
    repeat' first
      | refine k_then ?_
      | refine c_seq ?_
      | refine c_region ?_
      | refine s_nil ?_
      | refine s_assign (by exact rfl) (by exact rfl) ?_
      | refine c_skip ?_
      | refine c_ret ?_
      | refine k_blk ?_
      | refine c_cond_f (by exact rfl) ?_
    refine ret1 [] rfl rfl rfl ⟨rfl, rfl⟩
end Go.Proofs.Ytpajjnkmaebhcaa
end
section
set_option linter.unusedVariables false
namespace Fil
def sumL (ls : List (List Int)) : Nat := (ls.map List.length).sum
theorem sumL_take {ls : List (List Int)} {k : Nat} {l : List Int} (h : ls[k]? = some l) : sumL (ls.take (k + 1)) = sumL (ls.take k) + l.length := by
  rw [List.take_add_one, h, sumL, List.map_append, List.sum_append]
  simp [sumL]
theorem sumL_le : ∀ {ls : List (List Int)} {l : List Int}, l ∈ ls → l.length ≤ sumL ls
  | x :: ls, l, h => by
    simp only [sumL, List.map_cons, List.sum_cons]
    rcases List.mem_cons.1 h with rfl | h
    · omega
    · have := sumL_le h
      simp only [sumL] at this
      omega
theorem sumL_mono (ls : List (List Int)) (k : Nat) : sumL (ls.take k) ≤ sumL ls := by
  conv => rhs; rw [← List.take_append_drop k ls, sumL, List.map_append, List.sum_append]
  exact Nat.le_add_right _ _
def light7 (n : Int) (m : Nat) (ls : List (List Int)) (k : Int) : Bool := (decide (n ≤ k) && decide ((m : Int) ≤ 4 * k)) && decide ((ls.length : Int) ≤ 2 * k) && decide ((sumL ls : Int) ≤ 1000)
theorem light7_t {n : Int} {m : Nat} {ls : List (List Int)} {k : Int} (h : light7 n m ls k = true) : n ≤ k ∧ (m : Int) ≤ 4 * k ∧ (ls.length : Int) ≤ 2 * k ∧ ∀ l ∈ ls, l.length ≤ 1000 := by
  simp only [light7, Bool.and_eq_true, decide_eq_true_eq] at h
  obtain ⟨⟨⟨h1, h2⟩, h3⟩, h4⟩ := h
  exact ⟨h1, h2, h3, fun l hl => by have := sumL_le hl; omega⟩
end Fil
namespace Go.Proofs.Ytpajjnkmaebhcaa
open Go.RowKit Go.Sl Fil
set_option maxRecDepth 100000
set_option maxHeartbeats 8000000
set_option linter.unusedVariables false
set_option linter.unusedSimpArgs false
attribute [local irreducible] Code.wp wpList bodyPost wpQuiet Exit.then Exit.inBlock Post wpAnyH wpOp
theorem Light7_ok (n : Int) (v : Value) (m : Nat) (vr : Value) (hr0 : List Value) (ls : List (List Int)) (k : Int) (w : World) (hs : Shp v m) (hR : ROsI w No vr hr0 ls) (hlen : ∀ l ∈ ls, l.length ≤ 17592186044416) (hk : 0 ≤ k ∧ k < 1000000) :
    Calls Try.prog 13 #[.agg #[.int .i64 n, v], vr, .int .i64 k] w (Post w No (Just (.bool (light7 n m ls k)))) := by
  have hsr := hR.shp
  have hrr := hR.ro
  have hls := hsr.1
  simp only [maxLen] at hls
  refine enter0 (vs := [_, _, _]) Try.func13 rfl Try.ntmps13 rfl ?_
  repeat' first
    | refine k_then ?_
    | refine c_seq ?_
    | refine c_region ?_
    | refine s_nil ?_
    | refine s_assign (by exact rfl) (by exact rfl) ?_
    | refine o_box (by exact rfl) (by exact rfl) (fun b => ?_)
    | refine c_block ?_
  refine c_loop (fun i : Nat => i ≤ ls.length) (fun i => [(1, vr), (2, .int .i64 k), (3, .pointer (some ⟨b, 0, none⟩)), (6, .bool false), (7, .int .i64 (sumL (ls.take i) : Int)), (8, .int .i64 (i : Int))]) (fun _ => [boxHP b 24 (Value.agg #[.int .i64 n, v]).cells.toList]) (fun i => ls.length - i) 0 [0] (Nat.zero_le _) rfl ⟨rfl, rfl, rfl, rfl, rfl, rfl, trivial⟩ ?_
  rintro i hi
  by_cases hlt : i < ls.length
  · obtain ⟨hx, hhx⟩ : ∃ x, hr0[i]? = some x := ⟨_, List.getElem?_eq_getElem (by have := hR.len; omega)⟩
    obtain ⟨l, hl⟩ : ∃ l, ls[i]? = some l := ⟨_, List.getElem?_eq_getElem hlt⟩
    obtain ⟨hsx, hrx⟩ := hR.kid i hx l hhx hl
    have h1' : hr0[i * 1]? = some hx := by rw [Nat.mul_one]; exact hhx
    have hm := hlen l (List.mem_of_getElem? hl)
    have hst := sumL_take hl
    by_cases h10 : sumL (ls.take i) ≤ 1000
    · repeat' first
        | refine k_then ?_
        | refine c_seq ?_
        | refine c_region ?_
        | refine s_nil ?_
        | refine s_move (by exact rfl) (by exact rfl) ?_
        | refine s_assign (by exact rfl) (by exact rfl) ?_
        | refine s_lss (by exact rfl) (by exact rfl) (by exact rfl) ?_
        | refine s_add (by exact rfl) (by exact rfl) (by exact rfl) (by omega) ?_
        | refine s_len (by exact rfl) (by exact rfl) (by assumption) ?_
        | refine s_idx (by exact rfl) (by exact rfl) (by exact rfl) (by assumption) (by first | assumption | omega) ?_
        | refine s_pick_t (by exact rfl) (by exact rfl) (by exact rfl) ?_
        | refine s_ld_ro (by exact rfl) (by exact rfl) (by assumption) (by assumption) ?_
        | refine c_block ?_
        | refine c_skip ?_
        | refine k_blk ?_
        | (refine c_cond_p (by exact rfl) (fun h => ?_) (fun h => ?_) <;> try (exfalso; omega))
        | (refine g_case (by exact rfl) (by exact rfl) (fun h => ?_) (fun h => ?_) <;> try (exfalso; omega))
        | refine w_move (by exact rfl) (by exact rfl) (by exact rfl) (by exact rfl) ?_
        | refine w_leq (by exact rfl) (by exact rfl) (by exact rfl) (by exact rfl) (by exact rfl) ?_
      refine c_round (i + 1) [0] (by exact rfl) ?_ (by omega) (by omega)
      rw [hst, Int.natCast_add]
      exact ⟨rfl, rfl, rfl, rfl, rfl, rfl, trivial⟩
    · have hmo := sumL_mono ls i
      repeat' first
        | refine k_then ?_
        | refine c_seq ?_
        | refine c_region ?_
        | refine s_nil ?_
        | refine s_move (by exact rfl) (by exact rfl) ?_
        | refine s_lss (by exact rfl) (by exact rfl) (by exact rfl) ?_
        | refine s_len (by exact rfl) (by exact rfl) (by assumption) ?_
        | refine s_pick_t (by exact rfl) (by exact rfl) (by exact rfl) ?_
        | refine s_ldk_box (by exact rfl) (by exact rfl) (by exact .head _) (by exact rfl) (by exact rfl) ?_
        | refine c_exit ?_
        | refine k_then_exit ?_
        | refine k_blk_eq ?_
        | (refine c_cond_p (by exact rfl) (fun h => ?_) (fun h => ?_) <;> try (exfalso; omega))
        | (refine g_case (by exact rfl) (by exact rfl) (fun h => ?_) (fun h => ?_) <;> try (exfalso; omega))
        | refine w_move (by exact rfl) (by exact rfl) (by exact rfl) (by exact rfl) ?_
        | refine w_leq (by exact rfl) (by exact rfl) (by exact rfl) (by exact rfl) (by exact rfl) ?_
      refine s_call (by exact rfl) (by exact rfl) (fun w h => Light_ok n v m k w hs hk) ?_
      unfold light7
      rw [show decide ((sumL ls : Int) ≤ 1000) = false from decide_eq_false (by omega), Bool.and_false]
      cases hb : (decide (n ≤ k) && decide ((m : Int) ≤ 4 * k))
      · repeat' first
          | refine k_then ?_
          | refine s_nil ?_
          | refine s_move (by exact rfl) (by exact rfl) ?_
          | refine s_assign (by exact rfl) (by exact rfl) ?_
          | refine s_pick_f (by exact rfl) (by exact rfl) (by exact rfl) ?_
          | refine c_ret ?_
          | refine g_skip (by exact rfl) (by exact rfl) (by exact rfl) (by exact rfl) ?_
        refine ret1 [] rfl rfl rfl ⟨rfl, rfl⟩
      · repeat' first
          | refine k_then ?_
          | refine s_nil ?_
          | refine s_move (by exact rfl) (by exact rfl) ?_
          | refine s_assign (by exact rfl) (by exact rfl) ?_
          | refine s_pick_t (by exact rfl) (by exact rfl) (by exact rfl) ?_
          | refine s_pick_f (by exact rfl) (by exact rfl) (by exact rfl) ?_
          | refine c_ret ?_
          | (refine g_case (by exact rfl) (by exact rfl) (fun h => ?_) (fun h => ?_) <;> try (exfalso; omega))
          | refine g_skip (by exact rfl) (by exact rfl) (by exact rfl) (by exact rfl) ?_
          | refine w_move (by exact rfl) (by exact rfl) (by exact rfl) (by exact rfl) ?_
          | refine w_leq (by exact rfl) (by exact rfl) (by exact rfl) (by exact rfl) (by exact rfl) ?_
          | refine w_mul (by exact rfl) (by exact rfl) (by exact rfl) (by exact rfl) (by exact rfl) (by omega) ?_
          | refine w_len (by exact rfl) (by exact rfl) (by exact rfl) (by exact rfl) (by assumption) ?_
        all_goals refine ret1 [] rfl rfl rfl ⟨congrArg Value.bool ?_, rfl⟩
        all_goals simp only [decide_eq_false_iff_not]
        all_goals omega
  · repeat' first
      | refine k_then ?_
      | refine c_seq ?_
      | refine c_region ?_
      | refine s_nil ?_
      | refine s_move (by exact rfl) (by exact rfl) ?_
      | refine s_lss (by exact rfl) (by exact rfl) (by exact rfl) ?_
      | refine s_len (by exact rfl) (by exact rfl) (by assumption) ?_
      | refine s_pick_f (by exact rfl) (by exact rfl) (by exact rfl) ?_
      | refine s_ldk_box (by exact rfl) (by exact rfl) (by exact .head _) (by exact rfl) (by exact rfl) ?_
      | refine c_exit ?_
      | refine k_then_exit ?_
      | refine k_blk_eq ?_
      | refine c_cond_f (by exact rfl) ?_
      | (refine g_case (by exact rfl) (by exact rfl) (fun h => ?_) (fun h => ?_) <;> try (exfalso; omega))
      | refine g_skip (by exact rfl) (by exact rfl) (by exact rfl) (by exact rfl) ?_
    obtain rfl : i = ls.length := by omega
    rw [List.take_length]
    refine s_call (by exact rfl) (by exact rfl) (fun w h => Light_ok n v m k w hs hk) ?_
    unfold light7
    cases hb : (decide (n ≤ k) && decide ((m : Int) ≤ 4 * k))
    · repeat' first
        | refine k_then ?_
        | refine s_nil ?_
        | refine s_move (by exact rfl) (by exact rfl) ?_
        | refine s_assign (by exact rfl) (by exact rfl) ?_
        | refine s_pick_f (by exact rfl) (by exact rfl) (by exact rfl) ?_
        | refine c_ret ?_
        | refine g_skip (by exact rfl) (by exact rfl) (by exact rfl) (by exact rfl) ?_
      all_goals refine ret1 [] rfl rfl rfl ⟨rfl, rfl⟩
    · repeat' first
        | refine k_then ?_
        | refine s_nil ?_
        | refine s_move (by exact rfl) (by exact rfl) ?_
        | refine s_assign (by exact rfl) (by exact rfl) ?_
        | refine s_pick_t (by exact rfl) (by exact rfl) (by exact rfl) ?_
        | refine s_pick_f (by exact rfl) (by exact rfl) (by exact rfl) ?_
        | refine c_ret ?_
        | (refine g_case (by exact rfl) (by exact rfl) (fun h => ?_) (fun h => ?_) <;> try (exfalso; omega))
        | refine g_skip (by exact rfl) (by exact rfl) (by exact rfl) (by exact rfl) ?_
        | refine w_move (by exact rfl) (by exact rfl) (by exact rfl) (by exact rfl) ?_
        | refine w_leq (by exact rfl) (by exact rfl) (by exact rfl) (by exact rfl) (by exact rfl) ?_
        | refine w_mul (by exact rfl) (by exact rfl) (by exact rfl) (by exact rfl) (by exact rfl) (by omega) ?_
        | refine w_len (by exact rfl) (by exact rfl) (by exact rfl) (by exact rfl) (by assumption) ?_
      · refine ret1 [] rfl rfl rfl ⟨congrArg Value.bool ?_, rfl⟩
        rw [decide_eq_true h, Bool.and_true, Bool.true_and]
      · refine ret1 [] rfl rfl rfl ⟨congrArg Value.bool ?_, rfl⟩
        rw [decide_eq_false h, Bool.and_false, Bool.false_and]
end Go.Proofs.Ytpajjnkmaebhcaa
end
section
set_option linter.unusedVariables false
namespace Go.Proofs.Ytpajjnkmaebhcaa
open Go Go.RowKit Go.Sl Fil
theorem calls_ex {P : Program} {f : FuncId} {args : Array Value} {w : World} {R : Ending → World → Prop} (h : Calls P f args w R) : ∃ e w', R e w' := by
  obtain ⟨e, w', _, hR, _⟩ := h []
  exact ⟨e, w', hR⟩
theorem lev_ex (w : World) {n : Int} {es : List E} (hR : RightG n es) : ∃ o lab, Lev n.toNat (nb (tn es)) o lab := by
  have hm := hR.many
  let W : World := { w with heap := #[.cells (esV es).toArray 60 (0, 0)] }
  have hs : Shp (.slice (some ⟨0, 0, none⟩) es.length es.length) es.length := ⟨by simp only [maxLen]; omega, .inr (.inl ⟨0, 0, es.length, rfl, Nat.le_refl _, by simp only [maxLen]; omega⟩)⟩
  have hr : RO W No (.slice (some ⟨0, 0, none⟩) es.length es.length) (esV es) := RO.of_rd fun j u hj => ⟨0, 0, es.length, es.length, rfl, by simp [World.cell?, W, hj]⟩
  obtain ⟨e, w', h⟩ := calls_ex (Components_ok n _ es W hs hr hR)
  obtain ⟨v, L, hG, _⟩ := h
  obtain ⟨met, out, lab, _, hB, _⟩ := hG
  exact ⟨_, _, hB.lev⟩
def es3 : List E := [(0, 1, 0), (0, 2, 0), (1, 2, 0)]
def R3 : List (List Nat) := [[1, 2], [2, 0], [0, 1]]
theorem right3 : RightG 3 es3 := right_iff.1 (by decide)
theorem rot3 : RotL (3 : Int).toNat (tn es3) R3 where
  len := rfl
  perm v hv := by
    match v, hv with
    | 0, _ => decide
    | 1, _ => decide
    | 2, _ => decide
theorem darts3 : dartsAll (3 : Int).toNat (tn es3) = [(0, 1), (0, 2), (1, 0), (1, 2), (2, 0), (2, 1)] := by
  have h : nearS (tn es3) = fun u => (List.range (3 : Int).toNat).filter (fun v => decide (v ∈ rf R3 u)) := funext fun u => (near_filter right3 rot3 u).symm
  rw [dartsAll, h]
  decide
theorem faces3 : facesR (3 : Int).toNat (tn es3) R3 = [[(0, 1), (1, 2), (2, 0)], [(0, 2), (2, 1), (1, 0)]] := by
  rw [facesR, darts3]
  decide
theorem lab3 {o lab : Nat → Nat} (hL : Lev (3 : Int).toNat (nb (tn es3)) o lab) : compsS (3 : Int).toNat lab = [[0, 1, 2]] := by
  have hG : Fil.Good (3 : Int).toNat (tn es3) := right3.good
  have hlab : (List.range 3).map lab = [0, 0, 0] := by
    have h := ref_labels hG hL
    have h2 : rounds relaxL (tn es3) (3 : Int).toNat (List.range (3 : Int).toNat) = [0, 0, 0] := by decide
    rw [h2] at h
    exact h.symm
  have h : lab 0 = 0 ∧ lab 1 = 0 ∧ lab 2 = 0 := by simpa [List.range_succ] using hlab
  have e : ∀ v, v < 3 → lab v = (fun _ => 0) v := fun v hv => by
    match v, hv with
    | 0, _ => exact h.1
    | 1, _ => exact h.2.1
    | 2, _ => exact h.2.2
  exact (compsS_congr (N := 3) e).trans (by decide)
theorem euler3 {o lab : Nat → Nat} (hL : Lev (3 : Int).toNat (nb (tn es3)) o lab) : eulerL (3 : Int).toNat (tn es3) lab (facesR (3 : Int).toNat (tn es3) R3) = [2] := by
  rw [eulerL, lab3 hL, faces3]
  decide
set_option maxRecDepth 100000
set_option maxHeartbeats 8000000
set_option linter.unusedVariables false
set_option linter.unusedSimpArgs false
attribute [local irreducible] Code.wp wpList bodyPost wpQuiet Exit.then Exit.inBlock Post wpAnyH wpOp
theorem alive07_ok (w : World) : Calls Try.prog 14 #[] w (Post w No (Just (.bool true))) := by
  obtain ⟨o, lab, hL⟩ := lev_ex w right3
  refine enter0 (vs := []) Try.func14 rfl Try.ntmps14 rfl ?_
  repeat' first
    | refine k_then ?_
    | refine c_seq ?_
    | refine c_region ?_
    | refine s_nil ?_
    | refine s_assign (by exact rfl) (by exact rfl) ?_
  refine o_build [(0, .int .i64 0, [.int .i64 0]), (1, .int .i64 1, [.int .i64 1])] (by exact rfl) (by exact rfl) (by simp [Value.cells]) (by exact rfl) ?_
  refine o_build [(0, .int .i64 0, [.int .i64 0]), (1, .int .i64 2, [.int .i64 2])] (by exact rfl) (by exact rfl) (by simp [Value.cells]) (by exact rfl) ?_
  refine o_build [(0, .int .i64 1, [.int .i64 1]), (1, .int .i64 2, [.int .i64 2])] (by exact rfl) (by exact rfl) (by simp [Value.cells]) (by exact rfl) ?_
  refine o_mk [.agg (eV (0, 1, 0)).toArray, .agg (eV (0, 2, 0)).toArray, .agg (eV (1, 2, 0)).toArray] (by exact rfl) (by exact rfl) rfl ?_ ?_ (by simp) fun v hv => ?_
  · simp [Value.cells, eV]
  · simp
  rw [show ([Value.agg (eV (0, 1, 0)).toArray, .agg (eV (0, 2, 0)).toArray, .agg (eV (1, 2, 0)).toArray].flatMap fun u => u.cells.toList) = esV es3 from rfl]
  refine o_build [(0, .int .i64 3, [.int .i64 3]), (1, v, [v])] (by exact rfl) (by exact rfl) (by
    intro q hq
    simp only [List.mem_cons, List.not_mem_nil, or_false] at hq
    rcases hq with rfl | rfl
    · rfl
    · exact one_cells hv.one) (by exact rfl) ?_
  repeat' first
    | refine o_alloc (by exact rfl) (fun b => ?_)
  refine o_stk_box (i := 0) (us := [.int .i64 3, v]) (by exact rfl) (by exact rfl) (by exact rfl) (by exact rfl) (by exact rfl) (by
    intro u hu
    simp only [List.mem_cons, List.not_mem_nil, or_false] at hu
    rcases hu with rfl | rfl
    · rfl
    · exact hv.one) (by simp [Value.cells]) ?_
  repeat' first
    | refine k_then ?_
    | refine c_seq ?_
    | refine c_region ?_
    | refine s_nil ?_
  refine o_mk [.int .i64 1, .int .i64 2] (by exact rfl) (by exact rfl) rfl ?_ ?_ (by simp) fun v0 hv0 => ?_
  · simp [Value.cells]
  · simp
  refine o_mk [.int .i64 2, .int .i64 0] (by exact rfl) (by exact rfl) rfl ?_ ?_ (by simp) fun v1 hv1 => ?_
  · simp [Value.cells]
  · simp
  refine o_mk [.int .i64 0, .int .i64 1] (by exact rfl) (by exact rfl) rfl ?_ ?_ (by simp) fun v2 hv2 => ?_
  · simp [Value.cells]
  · simp
  refine o_mk [v0, v1, v2] (by exact rfl) (by exact rfl) rfl ?_ ?_ (by simp) fun vr hvr => ?_
  · intro u hu
    simp only [List.mem_cons, List.not_mem_nil, or_false] at hu
    rcases hu with rfl | rfl | rfl
    · rw [← Array.length_toList, one_cells hv0.one]; rfl
    · rw [← Array.length_toList, one_cells hv1.one]; rfl
    · rw [← Array.length_toList, one_cells hv2.one]; rfl
  · simp
  rw [show ([v0, v1, v2].flatMap fun u => u.cells.toList) = [v0, v1, v2] from by simp [one_cells hv0.one, one_cells hv1.one, one_cells hv2.one]]
  repeat' first
    | refine k_then ?_
    | refine c_seq ?_
    | refine c_region ?_
    | refine s_nil ?_
    | refine s_move (by exact rfl) (by exact rfl) ?_
    | refine s_assign (by exact rfl) (by exact rfl) ?_
    | refine s_ldk_box (by exact rfl) (by exact rfl) (by exact .tail _ (.tail _ (.tail _ (.tail _ (.head _))))) (by exact rfl) (by exact rfl) ?_
  refine c_star0 ?_
  refine c_pick [4, 0, 0, 0, 0, 0, 0] (by exact rfl) ?_
  refine c_pushk 0 (by exact rfl) ?_
  refine c_pick [3, 0, 0, 0, 0, 0] (by exact rfl) ?_
  refine c_pushk 0 (by exact rfl) ?_
  refine c_pick [2, 0, 0, 0, 0] (by exact rfl) ?_
  refine c_pushk 0 (by exact rfl) ?_
  have hros : ∀ {L : List HP} {w1 : World}, rowHP vr 36 1 3 [v0, v1, v2] ∈ L → starHP (kids rowN [v0, v1, v2] R3) ∈ L → St w No L w1 → ROs w1 No vr [v0, v1, v2] R3 := fun h1 h2 h => ros_own h h1 rfl h2
  refine o_call (by exact rfl) (by exact rfl) (fun w h => rotFaces_ok 3 v es3 vr [v0, v1, v2] R3 w hv (ro_own h (by exact .tail _ (.tail _ (.tail _ (.head _))))) right3 (hros (by exact .tail _ (.head _)) (by exact .head _) h) rot3) ?_
  rintro _ _ ⟨vf, hf, rfl, hfl, rfl⟩
  rw [faces3] at hfl ⊢
  repeat' first
    | refine k_then ?_
    | refine c_seq ?_
    | refine c_region ?_
    | refine s_nil ?_
    | refine s_move (by exact rfl) (by exact rfl) ?_
    | refine s_assign (by exact rfl) (by exact rfl) ?_
    | refine s_extract (by exact rfl) (by exact rfl) (by exact rfl) ?_
    | refine s_ldk_box (by exact rfl) (by exact rfl) (by exact .tail _ (.tail _ (.tail _ (.tail _ (.head _))))) (by exact rfl) (by exact rfl) ?_
  refine o_call (by exact rfl) (by exact rfl) (fun w h => rotEulerL_ok 3 v es3 vr [v0, v1, v2] R3 o lab w hv (ro_own h (by exact .tail _ (.tail _ (.tail _ (.tail _ (.tail _ (.head _))))))) right3 (hros (by exact .tail _ (.tail _ (.tail _ (.head _)))) (by exact .tail _ (.tail _ (.head _))) h) rot3 hL) ?_
  rintro _ _ ⟨vo, rfl, rfl⟩
  rw [euler3 hL]
  refine know_row (v := vo) (.head _) fun hvo _ => ?_
  obtain ⟨h0, h1, rfl⟩ : ∃ a b, hf = [a, b] := by
    match hf, hfl with
    | [a, b], _ => exact ⟨a, b, rfl⟩
  have hkd : rowHP h0 43 2 3 (dsV [(0, 1), (1, 2), (2, 0)]) ∈ kids rowD [h0, h1] [[(0, 1), (1, 2), (2, 0)], [(0, 2), (2, 1), (1, 0)]] := .head _
  refine know_kid (by exact .tail _ (.tail _ (.head _))) hkd fun hs0 _ => ?_
  refine know_row (v := vf) (by exact .tail _ (.head _)) fun hvf _ => ?_
  have hvf2 : Shp vf 2 := hvf
  have h00 : [h0, h1][0 * 1]? = some h0 := rfl
  repeat' first
    | refine k_then ?_
    | refine c_seq ?_
    | refine c_region ?_
    | refine s_nil ?_
    | refine s_move (by exact rfl) (by exact rfl) ?_
    | refine s_assign (by exact rfl) (by exact rfl) ?_
    | refine s_eql (by exact rfl) (by exact rfl) (by exact rfl) ?_
    | refine s_extract (by exact rfl) (by exact rfl) (by exact rfl) ?_
    | refine s_pick_t (by exact rfl) (by exact rfl) (by exact rfl) ?_
    | (refine g_case (by exact rfl) (by exact rfl) (fun h => ?_) (fun h => ?_) <;> try (exfalso; omega))
    | refine w_move (by exact rfl) (by exact rfl) (by exact rfl) (by exact rfl) ?_
    | refine w_eql (by exact rfl) (by exact rfl) (by exact rfl) (by exact rfl) (by exact rfl) ?_
    | refine w_len (by exact rfl) (by exact rfl) (by exact rfl) (by exact rfl) (by assumption) ?_
    | refine w_idxi (by exact rfl) (by exact rfl) (by exact rfl) (by exact rfl) (by exact rfl) (by assumption) (by first | assumption | omega) ?_
    | refine w_ld_row (by exact rfl) (by exact rfl) (by exact rfl) (by exact rfl) (by exact .tail _ (.head _)) (by assumption) ?_
    | refine g_on (by exact rfl) (by exact rfl) ?_
  refine o_mk [.int .i64 2] (by exact rfl) (by exact rfl) rfl ?_ ?_ (by simp) fun vt hvt => ?_
  · simp [Value.cells]
  · simp
  rw [show ([Value.int .i64 2].flatMap fun u => u.cells.toList) = iV [2] from rfl]
  repeat' first
    | refine g_on (by exact rfl) (by exact rfl) ?_
  refine s_call (by exact rfl) (by exact rfl) (fun w h => Ints_ok vo vt [2] [2] w hvo hvt (ro_own h (by exact .tail _ (.head _))) (ro_own h (by exact .head _))) ?_
  repeat' first
    | refine k_then ?_
    | refine s_nil ?_
    | refine s_move (by exact rfl) (by exact rfl) ?_
    | refine s_assign (by exact rfl) (by exact rfl) ?_
    | refine s_pick_t (by exact rfl) (by exact rfl) (by exact rfl) ?_
    | refine s_pick_f (by exact rfl) (by exact rfl) (by exact rfl) ?_
    | refine c_ret ?_
    | (refine g_case (by exact rfl) (by exact rfl) (fun h => ?_) (fun h => ?_) <;> try (exfalso; omega))
    | refine g_skip (by exact rfl) (by exact rfl) (by exact rfl) (by exact rfl) ?_
    | refine w_move (by exact rfl) (by exact rfl) (by exact rfl) (by exact rfl) ?_
    | refine w_ldk_box (by exact rfl) (by exact rfl) (by exact rfl) (by exact rfl) (by exact .tail _ (.tail _ (.tail _ (.tail _ (.tail _ (.tail _ (.head _))))))) (by exact rfl) (by exact rfl) ?_
    | refine g_on (by exact rfl) (by exact rfl) ?_
  rotate_left
  · exact absurd rfl h
  refine s_call (by exact rfl) (by exact rfl) (fun w h => rotPlane_ok 3 v es3 vr [v0, v1, v2] R3 o lab w hv (ro_own h (by exact .tail _ (.tail _ (.tail _ (.tail _ (.tail _ (.tail _ (.tail _ (.head _))))))))) right3 (hros (by exact .tail _ (.tail _ (.tail _ (.tail _ (.tail _ (.head _)))))) (by exact .tail _ (.tail _ (.tail _ (.tail _ (.head _))))) h) rot3 hL) ?_
  have hpl : planeR (3 : Int).toNat (tn es3) lab R3 = 0 := by rw [planeR, euler3 hL]; decide
  rw [hpl]
  repeat' first
    | refine k_then ?_
    | refine s_nil ?_
    | refine s_assign (by exact rfl) (by exact rfl) ?_
    | refine s_pick_t (by exact rfl) (by exact rfl) (by exact rfl) ?_
    | refine c_ret ?_
    | refine w_eql (by exact rfl) (by exact rfl) (by exact rfl) (by exact rfl) (by exact rfl) ?_
  refine ret1 [] rfl rfl (by exact rfl) ⟨rfl, rfl⟩
end Go.Proofs.Ytpajjnkmaebhcaa
end
section
namespace Fil
/-- is an edge between u and v? -/
def between (u v : Int) (e : E) : Bool := decide (e.1 = u ∧ e.2.1 = v ∨ e.1 = v ∧ e.2.1 = u)
def findK (es : List E) (u v : Int) : Int := match es.findIdx? (between u v) with | some i => (i : Int) | none => -1
theorem findK_ge {es : List E} {u v : Int} : 0 ≤ findK es u v ↔ ∃ e ∈ es, between u v e = true := by
  unfold findK
  cases h : es.findIdx? (between u v) with
  | none =>
    rw [List.findIdx?_eq_none_iff] at h
    simp only [show ¬ (0 : Int) ≤ -1 by omega, false_iff]
    rintro ⟨e, he, h2⟩
    rw [h e he] at h2
    simp at h2
  | some i =>
    obtain ⟨hi, h2, _⟩ := List.findIdx?_eq_some_iff_getElem.1 h
    simp only [show (0 : Int) ≤ (i : Int) by omega, true_iff]
    exact ⟨_, List.getElem_mem hi, h2⟩
def isNext (es : List E) (u v : Nat) : Bool := decide (0 ≤ findK es (u : Int) (v : Int))
theorem isNext_iff {n : Int} {es : List E} (hR : RightG n es) {u v : Nat} : isNext es u v = true ↔ v ∈ nb (tn es) u := by
  rw [isNext, decide_eq_true_iff, findK_ge, mem_nb (fun e he => by have := hR.good.lt e he; omega)]
  simp only [between, decide_eq_true_iff, tn, List.mem_map, Prod.mk.injEq]
  constructor
  · rintro ⟨e, he, h | h⟩
    · exact .inl ⟨e, he, by omega, by omega⟩
    · exact .inr ⟨e, he, by omega, by omega⟩
  · rintro (⟨e, he, h1, h2⟩ | ⟨e, he, h1, h2⟩)
    · obtain ⟨q1, q2, _⟩ := hR.ok e he
      exact ⟨e, he, .inl ⟨by omega, by omega⟩⟩
    · obtain ⟨q1, q2, _⟩ := hR.ok e he
      exact ⟨e, he, .inr ⟨by omega, by omega⟩⟩
theorem nb_nodup {n : Int} {es : List E} (hR : RightG n es) (u : Nat) : (nb (tn es) u).Nodup := by
  rw [nb, List.Nodup, List.pairwise_filterMap, tn, List.pairwise_map]
  refine List.Pairwise.imp_of_mem ?_ hR.sorted
  intro a b ha hb hab x hx y hy
  obtain ⟨a1, a2, _⟩ := hR.ok a ha
  obtain ⟨b1, b2, _⟩ := hR.ok b hb
  dsimp only [ltE] at hab
  dsimp only at hx hy
  split at hx <;> split at hy
  · simp only [Option.some.injEq] at hx hy; omega
  · split at hy
    · simp only [Option.some.injEq] at hx hy; omega
    · simp at hy
  · split at hx
    · simp only [Option.some.injEq] at hx hy; omega
    · simp at hx
  · split at hx
    · split at hy
      · simp only [Option.some.injEq] at hx hy; omega
      · simp at hy
    · simp at hx
theorem near_eq {n : Int} {es : List E} (hR : RightG n es) {u : Nat} (hu : u < n.toNat) : (List.range n.toNat).filter (isNext es u) = nearS (tn es) u := by
  have hn := nb_nodup hR u
  refine List.Perm.eq_of_pairwise (le := fun a b => a ≤ b) (fun a b _ _ h1 h2 => Nat.le_antisymm h1 h2) ?_ ?_ ?_
  · exact (List.pairwise_lt_range.imp fun h => Nat.le_of_lt h).filter _
  · have := List.pairwise_mergeSort (le := fun (x y : Nat) => decide (x ≤ y)) (fun a b c h1 h2 => by simp at *; omega) (fun a b => by simp; omega) (nb (tn es) u)
    exact this.imp fun h => by simpa using h
  · refine ((List.perm_ext_iff_of_nodup (List.nodup_range.filter _) hn).2 fun v => ?_).trans (List.mergeSort_perm _ _).symm
    rw [List.mem_filter, List.mem_range, isNext_iff hR]
    exact ⟨fun h => h.2, fun h => ⟨hR.good.adj.lt u hu v h, h⟩⟩
end Fil
namespace Go.Proofs.Ytpajjnkmaebhcaa
open Go.RowKit Go.Sl Fil
set_option maxRecDepth 100000
set_option maxHeartbeats 8000000
set_option linter.unusedVariables false
set_option linter.unusedSimpArgs false
attribute [local irreducible] Code.wp wpList bodyPost wpQuiet Exit.then Exit.inBlock Post wpAnyH wpOp
theorem Has_ok (v : Value) (l : List Int) (i : Int) (w : World) (hs : Shp v l.length) (hr : RO w No v (iV l)) :
    Calls Try.prog 25 #[v, .int .i64 i] w (Post w No (Just (.bool (decide (i ∈ l))))) := by
  have hm := hs.1
  simp only [maxLen] at hm
  refine enter0 (vs := [_, _]) Try.func25 rfl Try.ntmps25 rfl ?_
  repeat' first
    | refine k_then ?_
    | refine c_seq ?_
    | refine c_region ?_
    | refine s_nil ?_
    | refine s_assign (by exact rfl) (by exact rfl) ?_
    | refine c_block ?_
  refine c_loop (fun k : Nat => k ≤ l.length ∧ i ∉ l.take k) (fun k => [(0, v), (1, .int .i64 i), (5, .int .i64 (k : Int))]) (fun _ => []) (fun k => l.length - k) 0 [] ⟨by omega, by simp⟩ rfl ⟨rfl, rfl, rfl, trivial⟩ ?_
  rintro k ⟨hk, hq⟩
  by_cases hlt : k < l.length
  · obtain ⟨c, hc⟩ : ∃ c, l[k]? = some c := ⟨_, List.getElem?_eq_getElem hlt⟩
    have h1 : (iV l)[k * 1]? = some (.int .i64 c) := by simp [iV, hc]
    repeat' first
      | refine k_then ?_
      | refine c_seq ?_
      | refine c_region ?_
      | refine s_nil ?_
      | refine s_move (by exact rfl) (by exact rfl) ?_
      | refine s_assign (by exact rfl) (by exact rfl) ?_
      | refine s_lss (by exact rfl) (by exact rfl) (by exact rfl) ?_
      | refine s_eql (by exact rfl) (by exact rfl) (by exact rfl) ?_
      | refine s_add (by exact rfl) (by exact rfl) (by exact rfl) (by omega) ?_
      | refine s_len (by exact rfl) (by exact rfl) (by assumption) ?_
      | refine s_idx (by exact rfl) (by exact rfl) (by exact rfl) (by assumption) (by first | assumption | omega) ?_
      | refine s_ld_ro (by exact rfl) (by exact rfl) (by assumption) (by assumption) ?_
      | refine c_block ?_
      | refine c_skip ?_
      | refine c_ret ?_
      | refine k_then_ret ?_
      | refine k_blk ?_
      | refine k_blk_ret ?_
      | (refine c_cond_p (by exact rfl) (fun h => ?_) (fun h => ?_) <;> try (exfalso; omega))
    · refine ret1 [] rfl rfl rfl ⟨congrArg Value.bool (decide_eq_true ?_).symm, rfl⟩
      have : c = i := by omega
      rw [← this]
      exact List.mem_of_getElem? hc
    · refine c_round (k + 1) [] (by exact rfl) (by exact ⟨rfl, rfl, rfl, trivial⟩) ⟨by omega, ?_⟩ (by omega)
      rw [List.take_add_one, hc]
      simp only [Option.toList_some, List.mem_append, List.mem_singleton]
      rintro (h | h)
      · exact hq h
      · omega
  · repeat' first
      | refine k_then ?_
      | refine c_seq ?_
      | refine c_region ?_
      | refine s_nil ?_
      | refine s_move (by exact rfl) (by exact rfl) ?_
      | refine s_assign (by exact rfl) (by exact rfl) ?_
      | refine s_lss (by exact rfl) (by exact rfl) (by exact rfl) ?_
      | refine s_len (by exact rfl) (by exact rfl) (by assumption) ?_
      | refine c_exit ?_
      | refine c_ret ?_
      | refine k_then_exit ?_
      | refine k_blk_eq ?_
      | (refine c_cond_p (by exact rfl) (fun h => ?_) (fun h => ?_) <;> try (exfalso; omega))
    rw [List.take_of_length_le (by omega)] at hq
    refine ret1 [] rfl rfl rfl ⟨congrArg Value.bool (decide_eq_false hq).symm, rfl⟩
theorem HasN_ok (v : Value) (l : List Nat) (i : Nat) (w : World) (hs : Shp v l.length) (hr : RO w No v (nV l)) :
    Calls Try.prog 25 #[v, .int .i64 (i : Int)] w (Post w No (Just (.bool (decide (i ∈ l))))) := by
  have h := Has_ok v (l.map fun z : Nat => (z : Int)) i w (by simpa using hs) (by rw [← nV_iV]; exact hr)
  have e : ((i : Int) ∈ l.map fun z : Nat => (z : Int)) ↔ i ∈ l := by
    simp only [List.mem_map]
    exact ⟨fun ⟨a, h1, h2⟩ => by rwa [show i = a by omega], fun h => ⟨i, h, rfl⟩⟩
  rwa [decide_eq_decide.2 e] at h
theorem Find_ok (n : Int) (v : Value) (es : List E) (x y : Int) (w : World) (hs : Shp v es.length) (hr : RO w No v (esV es)) :
    Calls Try.prog 63 #[.agg #[.int .i64 n, v], .int .i64 x, .int .i64 y] w (Post w No (Just (.int .i64 (findK es x y)))) := by
  have hm := hs.1
  simp only [maxLen] at hm
  refine enter0 (vs := [_, _, _]) Try.func63 rfl Try.ntmps63 rfl ?_
  repeat' first
    | refine k_then ?_
    | refine c_seq ?_
    | refine c_region ?_
    | refine s_nil ?_
    | refine s_assign (by exact rfl) (by exact rfl) ?_
    | refine o_box (by exact rfl) (by exact rfl) (fun b => ?_)
    | refine c_block ?_
  refine c_loop (fun k : Nat => k ≤ es.length ∧ ∀ e ∈ es.take k, between x y e = false) (fun k => [(1, .int .i64 x), (2, .int .i64 y), (3, .pointer (some ⟨b, 0, none⟩)), (7, .int .i64 (k : Int))]) (fun _ => [boxHP b 24 [.int .i64 n, v]]) (fun k => es.length - k) 0 [0] ⟨by omega, by simp⟩ rfl ⟨rfl, rfl, rfl, rfl, trivial⟩ ?_
  rintro k ⟨hk, hq⟩
  by_cases hlt : k < es.length
  · obtain ⟨e, he⟩ : ∃ e, es[k]? = some e := ⟨_, List.getElem?_eq_getElem hlt⟩
    obtain ⟨hE0, hE1, hE2⟩ := esV_get he
    cases hbt : between x y e
    · have hn : ¬ (e.1 = x ∧ e.2.1 = y ∨ e.1 = y ∧ e.2.1 = x) := by simpa [between] using hbt
      repeat' first
        | refine k_then ?_
        | refine c_seq ?_
        | refine c_region ?_
        | refine s_nil ?_
        | refine s_move (by exact rfl) (by exact rfl) ?_
        | refine s_assign (by exact rfl) (by exact rfl) ?_
        | refine s_fa (by exact rfl) (by exact rfl) ?_
        | refine s_ld_box (by exact rfl) (by exact rfl) (by exact .head _) (by exact rfl) ?_
        | refine s_lss (by exact rfl) (by exact rfl) (by exact rfl) ?_
        | refine s_eql (by exact rfl) (by exact rfl) (by exact rfl) ?_
        | refine s_add (by exact rfl) (by exact rfl) (by exact rfl) (by omega) ?_
        | refine s_len (by exact rfl) (by exact rfl) (by assumption) ?_
        | refine s_idx (by exact rfl) (by exact rfl) (by exact rfl) (by assumption) (by first | assumption | omega) ?_
        | refine s_fap (by exact rfl) (by exact rfl) (by assumption) (by omega) ?_
        | refine s_pick_t (by exact rfl) (by exact rfl) (by exact rfl) ?_
        | refine s_pick_f (by exact rfl) (by exact rfl) (by exact rfl) ?_
        | refine s_ld_ro (by exact rfl) (by exact rfl) (by assumption) (by assumption) ?_
        | refine c_block ?_
        | refine c_skip ?_
        | refine k_blk ?_
        | (refine c_cond_p (by exact rfl) (fun h => ?_) (fun h => ?_) <;> try (exfalso; omega))
        | refine c_cond_f (by exact rfl) ?_
        | (refine g_case (by exact rfl) (by exact rfl) (fun h => ?_) (fun h => ?_) <;> try (exfalso; omega))
        | refine g_skip (by exact rfl) (by exact rfl) (by exact rfl) (by exact rfl) ?_
        | refine w_move (by exact rfl) (by exact rfl) (by exact rfl) (by exact rfl) ?_
        | refine w_fa (by exact rfl) (by exact rfl) (by exact rfl) (by exact rfl) ?_
        | refine w_ld_box (by exact rfl) (by exact rfl) (by exact rfl) (by exact rfl) (by exact .head _) (by exact rfl) ?_
        | refine w_eql (by exact rfl) (by exact rfl) (by exact rfl) (by exact rfl) (by exact rfl) ?_
        | refine w_idx (by exact rfl) (by exact rfl) (by exact rfl) (by exact rfl) (by exact rfl) (by assumption) (by first | assumption | omega) ?_
        | refine w_fap (by exact rfl) (by exact rfl) (by exact rfl) (by exact rfl) (by assumption) (by omega) ?_
        | refine w_pick_t (by exact rfl) (by exact rfl) (by exact rfl) (by exact rfl) (by exact rfl) ?_
        | refine w_pick_f (by exact rfl) (by exact rfl) (by exact rfl) (by exact rfl) (by exact rfl) ?_
        | refine w_ld_ro (by exact rfl) (by exact rfl) (by exact rfl) (by exact rfl) (by assumption) (by assumption) ?_
      all_goals
        refine c_round (k + 1) [0] (by exact rfl) (by exact ⟨rfl, rfl, rfl, rfl, trivial⟩) ⟨by omega, ?_⟩ (by omega)
        rw [List.take_add_one, he]
        intro a ha
        rcases List.mem_append.1 ha with ha | ha
        · exact hq a ha
        · obtain rfl : a = e := by simpa using ha
          exact hbt
    · have hp : e.1 = x ∧ e.2.1 = y ∨ e.1 = y ∧ e.2.1 = x := by simpa [between] using hbt
      have hfk : findK es x y = (k : Int) := by
        have : es.findIdx? (between x y) = some k := by
          rw [List.findIdx?_eq_some_iff_getElem]
          obtain ⟨h1, h2⟩ := List.getElem?_eq_some_iff.1 he
          refine ⟨h1, by rw [h2]; exact hbt, fun j hj => ?_⟩
          rw [hq _ (List.mem_take_iff_getElem.2 ⟨j, by omega, rfl⟩)]
          simp
        rw [findK, this]
      repeat' first
        | refine k_then ?_
        | refine c_seq ?_
        | refine c_region ?_
        | refine s_nil ?_
        | refine s_move (by exact rfl) (by exact rfl) ?_
        | refine s_assign (by exact rfl) (by exact rfl) ?_
        | refine s_fa (by exact rfl) (by exact rfl) ?_
        | refine s_ld_box (by exact rfl) (by exact rfl) (by exact .head _) (by exact rfl) ?_
        | refine s_lss (by exact rfl) (by exact rfl) (by exact rfl) ?_
        | refine s_eql (by exact rfl) (by exact rfl) (by exact rfl) ?_
        | refine s_len (by exact rfl) (by exact rfl) (by assumption) ?_
        | refine s_idx (by exact rfl) (by exact rfl) (by exact rfl) (by assumption) (by first | assumption | omega) ?_
        | refine s_fap (by exact rfl) (by exact rfl) (by assumption) (by omega) ?_
        | refine s_pick_t (by exact rfl) (by exact rfl) (by exact rfl) ?_
        | refine s_pick_f (by exact rfl) (by exact rfl) (by exact rfl) ?_
        | refine s_ld_ro (by exact rfl) (by exact rfl) (by assumption) (by assumption) ?_
        | refine c_block ?_
        | refine c_skip ?_
        | refine c_ret ?_
        | refine k_then_ret ?_
        | refine k_blk_ret ?_
        | (refine c_cond_p (by exact rfl) (fun h => ?_) (fun h => ?_) <;> try (exfalso; omega))
        | refine c_cond_t (by exact rfl) ?_
        | (refine g_case (by exact rfl) (by exact rfl) (fun h => ?_) (fun h => ?_) <;> try (exfalso; omega))
        | refine g_skip (by exact rfl) (by exact rfl) (by exact rfl) (by exact rfl) ?_
        | refine w_move (by exact rfl) (by exact rfl) (by exact rfl) (by exact rfl) ?_
        | refine w_fa (by exact rfl) (by exact rfl) (by exact rfl) (by exact rfl) ?_
        | refine w_ld_box (by exact rfl) (by exact rfl) (by exact rfl) (by exact rfl) (by exact .head _) (by exact rfl) ?_
        | refine w_eql (by exact rfl) (by exact rfl) (by exact rfl) (by exact rfl) (by exact rfl) ?_
        | refine w_idx (by exact rfl) (by exact rfl) (by exact rfl) (by exact rfl) (by exact rfl) (by assumption) (by first | assumption | omega) ?_
        | refine w_fap (by exact rfl) (by exact rfl) (by exact rfl) (by exact rfl) (by assumption) (by omega) ?_
        | refine w_pick_t (by exact rfl) (by exact rfl) (by exact rfl) (by exact rfl) (by exact rfl) ?_
        | refine w_ld_ro (by exact rfl) (by exact rfl) (by exact rfl) (by exact rfl) (by assumption) (by assumption) ?_
      all_goals refine ret1 [] rfl rfl rfl ⟨by rw [hfk], rfl⟩
  · repeat' first
      | refine k_then ?_
      | refine c_seq ?_
      | refine c_region ?_
      | refine s_nil ?_
      | refine s_move (by exact rfl) (by exact rfl) ?_
      | refine s_assign (by exact rfl) (by exact rfl) ?_
      | refine s_fa (by exact rfl) (by exact rfl) ?_
      | refine s_ld_box (by exact rfl) (by exact rfl) (by exact .head _) (by exact rfl) ?_
      | refine s_lss (by exact rfl) (by exact rfl) (by exact rfl) ?_
      | refine s_len (by exact rfl) (by exact rfl) (by assumption) ?_
      | refine c_exit ?_
      | refine c_ret ?_
      | refine k_then_exit ?_
      | refine k_blk_eq ?_
      | (refine c_cond_p (by exact rfl) (fun h => ?_) (fun h => ?_) <;> try (exfalso; omega))
    rw [List.take_of_length_le (by omega)] at hq
    refine ret1 [] rfl rfl rfl ⟨?_, rfl⟩
    have : es.findIdx? (between x y) = none := List.findIdx?_eq_none_iff.2 hq
    rw [findK, this]
theorem refNear_ok (n : Int) (v : Value) (es : List E) (w : World) (hs : Shp v es.length) (hr : RO w No v (esV es)) (hR : RightG n es) :
    Calls Try.prog 37 #[.agg #[.int .i64 n, v]] w (Post w No fun r L' => ∃ hs : List Value, hs.length = n.toNat ∧ L' = [rowHP r 36 1 n.toNat hs, starHP (kids rowN hs ((List.range n.toNat).map (nearS (tn es))))]) := by
  have hlo := hR.lo
  have hhi := hR.hi
  have hm : es.length < 4611686018427387904 := by have := hR.many; omega
  refine enter0 (vs := [_]) Try.func37 rfl Try.ntmps37 rfl ?_
  repeat' first
    | refine k_then ?_
    | refine c_seq ?_
    | refine c_region ?_
    | refine s_nil ?_
    | refine s_assign (by exact rfl) (by exact rfl) ?_
    | refine s_fa (by exact rfl) (by exact rfl) ?_
    | refine s_ld_box (by exact rfl) (by exact rfl) (by exact .head _) (by exact rfl) ?_
    | refine o_box (by exact rfl) (by exact rfl) (fun b => ?_)
  refine o_make (by exact rfl) (by exact rfl) (by exact rfl) (by omega) (by omega) fun vo hvo => ?_
  rw [made1 rfl]
  have hnear := fun u (hu : u < n.toNat) => near_eq hR hu
  repeat' first
    | refine k_then ?_
    | refine c_seq ?_
    | refine c_region ?_
    | refine s_nil ?_
    | refine s_assign (by exact rfl) (by exact rfl) ?_
    | refine c_block ?_
  generalize hN : n.toNat = N at *
  have hnN : n = (N : Int) := by omega
  subst hnN
  let part : Nat → Nat → Nat → List Nat := fun u m w => if w < u then (List.range N).filter (isNext es w) else if w = u then (List.range m).filter (isNext es w) else []
  refine c_nils 3 1 N ?_
  refine c_loop (fun x : Nat × List Value => x.1 ≤ N ∧ x.2.length = N) (fun x => [(1, .pointer (some ⟨b, 0, none⟩)), (3, vo), (4, .int .i64 (x.1 : Int))]) (fun x => [rowHP vo 36 1 N x.2, starHP (kids rowN x.2 ((List.range N).map (part x.1 0))), boxHP b 24 [.int .i64 (N : Int), v]]) (fun x => N - x.1) (0, List.replicate N (.slice none 0 0)) [1, 0, 0] ⟨by omega, by simp⟩ ?_ ⟨rfl, rfl, rfl, trivial⟩ ?_
  · rw [show (List.range N).map (part 0 0) = List.replicate N [] from by
      rw [List.eq_replicate_iff]
      refine ⟨by simp, fun x hx => ?_⟩
      obtain ⟨w, _, rfl⟩ := List.mem_map.1 hx
      simp only [part]
      split
      · omega
      · split <;> simp]
    rw [kids_nils]
    rfl
  rintro ⟨u, hs0⟩ ⟨hu, hl0⟩
  dsimp only at hu hl0 ⊢
  by_cases hul : u < N
  · repeat' first
      | refine k_then ?_
      | refine c_seq ?_
      | refine c_region ?_
      | refine s_nil ?_
      | refine s_move (by exact rfl) (by exact rfl) ?_
      | refine s_assign (by exact rfl) (by exact rfl) ?_
      | refine s_fa (by exact rfl) (by exact rfl) ?_
      | refine s_ld_box (by exact rfl) (by exact rfl) (by exact .tail _ (.tail _ (.head _))) (by exact rfl) ?_
      | refine s_lss (by exact rfl) (by exact rfl) (by exact rfl) ?_
      | refine c_block ?_
      | refine c_skip ?_
      | (refine c_cond_p (by exact rfl) (fun h => ?_) (fun h => ?_) <;> try (exfalso; omega))
    refine c_loop (fun x : Nat × List Value => x.1 ≤ N ∧ x.2.length = N) (fun x => [(1, .pointer (some ⟨b, 0, none⟩)), (3, vo), (4, .int .i64 (u : Int)), (5, .int .i64 (x.1 : Int))]) (fun x => [rowHP vo 36 1 N x.2, starHP (kids rowN x.2 ((List.range N).map (part u x.1))), boxHP b 24 [.int .i64 (N : Int), v]]) (fun x => N - x.1) (0, hs0) [0, 0, 0] ⟨by omega, hl0⟩ (by exact rfl) ⟨rfl, rfl, rfl, rfl, trivial⟩ ?_
    clear hl0
    clear hs0
    rintro ⟨m, hs0⟩ ⟨hmN, hl0⟩
    dsimp only at hmN hl0 ⊢
    by_cases hml : m < N
    · repeat' first
        | refine k_then ?_
        | refine c_seq ?_
        | refine c_region ?_
        | refine s_nil ?_
        | refine s_move (by exact rfl) (by exact rfl) ?_
        | refine s_fa (by exact rfl) (by exact rfl) ?_
        | refine s_ld_box (by exact rfl) (by exact rfl) (by exact .tail _ (.tail _ (.head _))) (by exact rfl) ?_
        | refine s_lss (by exact rfl) (by exact rfl) (by exact rfl) ?_
        | refine s_ldk_box (by exact rfl) (by exact rfl) (by exact .tail _ (.tail _ (.head _))) (by exact rfl) (by exact rfl) ?_
        | refine c_block ?_
        | refine c_skip ?_
        | (refine c_cond_p (by exact rfl) (fun h => ?_) (fun h => ?_) <;> try (exfalso; omega))
      refine s_call (by exact rfl) (by exact rfl) (fun w h => Find_ok N v es u m w hs (ro_old h hr)) ?_
      have hrow : (List.range (m + 1)).filter (isNext es u) = (List.range m).filter (isNext es u) ++ (if isNext es u m then [m] else []) := by
        rw [List.range_succ, List.filter_append]
        simp [List.filter_cons]
      have hpart : (List.range N).map (part u (m + 1)) = ((List.range N).map (part u m)).set u ((List.range (m + 1)).filter (isNext es u)) := by
        apply List.ext_getElem?
        intro k
        simp only [List.getElem?_set, List.getElem?_map, List.length_map, List.length_range]
        by_cases hk : k < N
        · rw [List.getElem?_range hk]
          by_cases hku : u = k
          · subst hku
            simp [part, hk]
          · simp only [hku, if_false, Option.map_some, part]
            have : ¬ k = u := fun e => hku e.symm
            simp [this]
        · rw [List.getElem?_eq_none (by simpa using hk)]
          have : ¬ u = k := by omega
          simp [this]
      have hpu : ((List.range N).map (part u m))[u]? = some ((List.range m).filter (isNext es u)) := by simp [part, hul]
      have hcnt : ((List.range m).filter (isNext es u)).length ≤ m := by
        have := List.length_filter_le (isNext es u) (List.range m)
        simpa using this
      cases hnx : isNext es u m
      · have hneg : ¬ (0 ≤ findK es (u : Int) (m : Int)) := by simpa [isNext] using hnx
        rw [hnx, if_neg (by simp), List.append_nil] at hrow
        repeat' first
          | refine k_then ?_
          | refine c_region ?_
          | refine s_nil ?_
          | refine s_move (by exact rfl) (by exact rfl) ?_
          | refine s_assign (by exact rfl) (by exact rfl) ?_
          | refine s_geq (by exact rfl) (by exact rfl) (by exact rfl) ?_
          | refine s_add (by exact rfl) (by exact rfl) (by exact rfl) (by omega) ?_
          | refine c_skip ?_
          | refine k_blk ?_
          | (refine c_cond_p (by exact rfl) (fun h => ?_) (fun h => ?_) <;> try (exfalso; omega))
        refine c_round (m + 1, hs0) [0, 0, 0] ?_ (by exact ⟨rfl, rfl, rfl, rfl, trivial⟩) ⟨by dsimp only; omega, hl0⟩ (by dsimp only; omega)
        dsimp only
        rw [hpart, hrow, show ((List.range N).map (part u m)).set u ((List.range m).filter (isNext es u)) = (List.range N).map (part u m) from by
          apply List.ext_getElem?
          intro k
          rw [List.getElem?_set]
          split
          · rename_i e; subst e; rw [hpu]; simp [hul]
          · rfl]
        rfl
      · have hpos : 0 ≤ findK es (u : Int) (m : Int) := by simpa [isNext] using hnx
        rw [hnx, if_pos rfl] at hrow
        obtain ⟨hd, hhd⟩ : ∃ hd, hs0[u]? = some hd := ⟨_, List.getElem?_eq_getElem (by omega)⟩
        have hhd1 : hs0[u * 1]? = some hd := by simpa using hhd
        repeat' first
          | refine k_then ?_
          | refine c_region ?_
          | refine s_nil ?_
          | refine s_move (by exact rfl) (by exact rfl) ?_
          | refine s_geq (by exact rfl) (by exact rfl) (by exact rfl) ?_
          | refine s_idx (by exact rfl) (by exact rfl) (by exact rfl) (by assumption) (by first | assumption | omega) ?_
          | refine s_ld_row (by exact rfl) (by exact rfl) (by exact .head _) (by assumption) ?_
          | (refine c_cond_p (by exact rfl) (fun h => ?_) (fun h => ?_) <;> try (exfalso; omega))
        refine o_mk [.int .i64 (m : Int)] (by exact rfl) (by exact rfl) rfl ?_ ?_ (by simp) fun vt hvt => ?_
        · simp [Value.cells]
        · simp
        skip
        refine c_take 2 u (by exact rfl) (kids_get hhd hpu) ?_
        refine c_pick [0, 1, 0, 0, 0] (by exact rfl) ?_
        refine o_append_row (i := 0) (by exact rfl) (by exact rfl) (by exact rfl) (by exact rfl) (by exact .tail _ (.tail _ (.head _))) (by exact rfl) (by simp [Value.cells, Value.oneCell']) ?_ fun vk hvk => ?_
        · omega
        repeat' first
          | refine s_idx (by exact rfl) (by exact rfl) (by exact rfl) (by assumption) (by first | assumption | omega) ?_
        refine o_st_row (i := 1) (by exact rfl) (by exact rfl) (by exact rfl) hvk.one (by omega) ?_
        repeat' first
          | refine k_then ?_
          | refine c_region ?_
          | refine s_nil ?_
          | refine s_move (by exact rfl) (by exact rfl) ?_
          | refine s_assign (by exact rfl) (by exact rfl) ?_
          | refine s_add (by exact rfl) (by exact rfl) (by exact rfl) (by omega) ?_
          | refine k_blk ?_
        refine c_pick [0, 0, 1, 1] (by exact rfl) ?_
        have e1 : rowHP vk 3 1 (((List.range m).filter (isNext es u)).length + 1) (nV ((List.range m).filter (isNext es u)) ++ [Value.int .i64 (m : Int)]) = rowN vk ((List.range (m + 1)).filter (isNext es u)) := by
          rw [hrow]
          exact rowN_snoc _ _ _
        refine c_give 1 u (by exact rfl) (by simp [kids, hl0, hul]) ?_
        refine c_round (m + 1, hs0.set u vk) [0, 0, 0] ?_ (by exact ⟨rfl, rfl, rfl, rfl, trivial⟩) ⟨by dsimp only; omega, by simpa using hl0⟩ (by dsimp only; omega)
        dsimp only
        rw [hpart, ← kids_set (x := empHP), ← e1, Nat.mul_one]
        rfl
    · repeat' first
        | refine k_then ?_
        | refine c_seq ?_
        | refine c_region ?_
        | refine s_nil ?_
        | refine s_move (by exact rfl) (by exact rfl) ?_
        | refine s_assign (by exact rfl) (by exact rfl) ?_
        | refine s_fa (by exact rfl) (by exact rfl) ?_
        | refine s_ld_box (by exact rfl) (by exact rfl) (by exact .tail _ (.tail _ (.head _))) (by exact rfl) ?_
        | refine s_lss (by exact rfl) (by exact rfl) (by exact rfl) ?_
        | refine s_add (by exact rfl) (by exact rfl) (by exact rfl) (by omega) ?_
        | refine c_exit ?_
        | refine k_then_exit ?_
        | refine k_blk ?_
        | refine k_blk_eq ?_
        | (refine c_cond_p (by exact rfl) (fun h => ?_) (fun h => ?_) <;> try (exfalso; omega))
      obtain rfl : m = N := by omega
      refine c_round (u + 1, hs0) [0, 0, 0] ?_ (by exact ⟨rfl, rfl, rfl, trivial⟩) ⟨by dsimp only; omega, hl0⟩ (by dsimp only; omega)
      dsimp only
      rw [show (List.range m).map (part (u + 1) 0) = (List.range m).map (part u m) from by
        apply List.map_congr_left
        intro w _
        simp only [part]
        by_cases h1 : w < u
        · rw [if_pos h1, if_pos (by omega)]
        · rw [if_neg h1]
          by_cases h2 : w = u
          · rw [if_pos h2, if_pos (by omega)]
          · rw [if_neg h2, if_neg (by omega)]
            split <;> simp]
      rfl
  · repeat' first
      | refine k_then ?_
      | refine c_seq ?_
      | refine c_region ?_
      | refine s_nil ?_
      | refine s_move (by exact rfl) (by exact rfl) ?_
      | refine s_assign (by exact rfl) (by exact rfl) ?_
      | refine s_fa (by exact rfl) (by exact rfl) ?_
      | refine s_ld_box (by exact rfl) (by exact rfl) (by exact .tail _ (.tail _ (.head _))) (by exact rfl) ?_
      | refine s_lss (by exact rfl) (by exact rfl) (by exact rfl) ?_
      | refine c_exit ?_
      | refine c_ret ?_
      | refine k_then_exit ?_
      | refine k_blk_eq ?_
      | (refine c_cond_p (by exact rfl) (fun h => ?_) (fun h => ?_) <;> try (exfalso; omega))
    obtain rfl : u = N := by omega
    refine ret1 [0, 0] rfl rfl rfl ⟨hs0, hl0, ?_⟩
    rw [show (List.range u).map (part u 0) = (List.range u).map (nearS (tn es)) from by
      apply List.map_congr_left
      intro w hw
      have hw : w < u := by simpa using hw
      simp only [part]
      rw [if_pos hw, hnear w hw]]
end Go.Proofs.Ytpajjnkmaebhcaa
end
section
set_option linter.unusedVariables false
namespace Fil
/-- as the document says it: as many, and each neighbour among them -/
theorem rotB_iff {n : Int} {es : List E} {ls : List (List Int)} (hR : RightG n es) (v : Nat) : rotB n es ls v = true ↔ (ls.getD v []).length = (nearS (tn es) v).length ∧ ∀ u ∈ nearS (tn es) v, (u : Int) ∈ ls.getD v [] := by
  have hnd : (nearS (tn es) v).Nodup := (List.mergeSort_perm _ _).nodup_iff.2 (nb_nd hR.good (tn_nodup hR) v)
  have hnd2 : ((nearS (tn es) v).map fun (k : Nat) => (k : Int)).Nodup := by
    rw [List.Nodup, List.pairwise_map]
    exact hnd.imp fun h e => h (by omega)
  rw [rotB, decide_eq_true_iff]
  generalize ls.getD v [] = l
  constructor
  · intro h
    have hp := List.mergeSort_perm l fun x y => decide (x ≤ y)
    rw [h] at hp
    refine ⟨by simpa using hp.length_eq.symm, fun u hu => hp.mem_iff.1 (List.mem_map.2 ⟨u, hu, rfl⟩)⟩
  · rintro ⟨h1, h2⟩
    have hp : ((nearS (tn es) v).map fun (k : Nat) => (k : Int)).Perm l := perm_of_sub hnd2 (fun a ha => by
      obtain ⟨u, hu, rfl⟩ := List.mem_map.1 ha
      exact h2 u hu) (by simp [h1])
    have hq := (List.mergeSort_perm l fun x y => decide (x ≤ y)).trans hp.symm
    have s1 : (l.mergeSort fun x y => decide (x ≤ y)).Pairwise fun a b => a ≤ b :=
      (List.pairwise_mergeSort (fun a b c h1 h2 => by simp at *; omega) (fun a b => by simp; omega) l).imp fun h => by simpa using h
    have s2 : ((nearS (tn es) v).map fun (k : Nat) => (k : Int)).Pairwise fun a b => a ≤ b := by
      rw [List.pairwise_map]
      exact (List.pairwise_mergeSort (fun a b c h1 h2 => by simp at *; omega) (fun a b => by simp; omega) (nb (tn es) v)).imp fun h => by simp at h; omega
    exact hq.eq_of_pairwise (fun a b _ _ h1 h2 => by omega) s1 s2
end Fil
namespace Go.Proofs.Ytpajjnkmaebhcaa
open Go.RowKit Go.Sl Fil
set_option maxRecDepth 100000
set_option maxHeartbeats 8000000
set_option linter.unusedVariables false
set_option linter.unusedSimpArgs false
attribute [local irreducible] Code.wp wpList bodyPost wpQuiet Exit.then Exit.inBlock Post wpAnyH wpOp
theorem refRotRight_ok (n : Int) (v : Value) (es : List E) (vr : Value) (hr0 : List Value) (ls : List (List Int)) (w : World) (hs : Shp v es.length) (hr : RO w No v (esV es)) (hm : es.length < 4611686018427387904) (hR : ROsI w No vr hr0 ls) :
    Calls Try.prog 16 #[.agg #[.int .i64 n, v], vr] w (Post w No (Just (.int .i64 (rotK n es ls)))) := by
  have hsr := hR.shp
  have hrr := hR.ro
  have hls := hsr.1
  simp only [maxLen] at hls
  refine enter0 (vs := [_, _]) Try.func16 rfl Try.ntmps16 rfl ?_
  repeat' first
    | refine k_then ?_
    | refine c_seq ?_
    | refine c_region ?_
    | refine s_nil ?_
    | refine s_assign (by exact rfl) (by exact rfl) ?_
    | refine s_ldk_box (by exact rfl) (by exact rfl) (by exact .head _) (by exact rfl) (by exact rfl) ?_
    | refine o_box (by exact rfl) (by exact rfl) (fun b => ?_)
  refine s_call (by exact rfl) (by exact rfl) (fun w h => refRight_ok n v es w hs (ro_old h hr) hm) ?_
  repeat' first
    | refine k_then ?_
    | refine c_seq ?_
    | refine c_region ?_
    | refine s_nil ?_
    | refine s_move (by exact rfl) (by exact rfl) ?_
    | refine s_assign (by exact rfl) (by exact rfl) ?_
    | refine s_fa (by exact rfl) (by exact rfl) ?_
    | refine s_ld_box (by exact rfl) (by exact rfl) (by exact .head _) (by exact rfl) ?_
    | refine s_neq (by exact rfl) (by exact rfl) (by exact rfl) ?_
    | refine s_len (by exact rfl) (by exact rfl) (by assumption) ?_
    | refine s_ldk_box (by exact rfl) (by exact rfl) (by exact .head _) (by exact rfl) (by exact rfl) ?_
    | refine c_skip ?_
    | refine c_ret ?_
    | refine k_then_ret ?_
    | (refine c_cond_p (by exact rfl) (fun h => ?_) (fun h => ?_) <;> try (exfalso; omega))
  · refine ret1 [] rfl rfl rfl ⟨?_, rfl⟩
    rw [rotK, if_pos h]
  · rename_i h0
    have h1 := h
    refine ret1 [] rfl rfl rfl ⟨?_, rfl⟩
    rw [rotK, if_neg h0, if_pos h1]
  rename_i h0
  have h1 := h
  have hRG := right_iff.1 (Classical.byContradiction h0)
  have hln : ls.length = n.toNat := by have := hRG.lo; omega
  refine o_call (by exact rfl) (by exact rfl) (fun w h => refNear_ok n v es w hs (ro_old h hr) hRG) ?_
  rintro vn _ ⟨hn, hnl, rfl⟩
  refine know_row (v := vn) (.head _) fun hvn _ => ?_
  repeat' first
    | refine k_then ?_
    | refine c_seq ?_
    | refine c_region ?_
    | refine s_nil ?_
    | refine s_assign (by exact rfl) (by exact rfl) ?_
    | refine c_block ?_
  have hlo := hRG.lo
  have hhi := hRG.hi
  have hAl : ∀ x, (nearS (tn es) x).length ≤ 4194304 := fun x => by
    have h1 := nb_length (tn es) x
    have h2 := hRG.many
    simp only [nearS, List.length_mergeSort]
    simp only [tn, List.length_map] at h1
    simp only [tn]
    omega
  have hrotK : rotK n es ls = if (List.range n.toNat).all (rotB n es ls) then 0 else 12 := by rw [rotK, if_neg h0, if_neg h1]
  rw [hrotK]
  have hBd : ∀ x, rotB n es ls x = true ↔ (ls.getD x []).length = (nearS (tn es) x).length ∧ ∀ u ∈ nearS (tn es) x, (u : Int) ∈ ls.getD x [] := rotB_iff hRG
  generalize rotB n es ls = B at *
  generalize nearS (tn es) = A at *
  clear hrotK h1 h h0
  generalize hN : n.toNat = N at *
  have hnN : n = (N : Int) := by omega
  subst hnN
  have hbad : ∀ k, k < N → ¬ B k = true → (if (List.range N).all B then (0 : Int) else 12) = 12 := fun k hk hb => by
    rw [if_neg]
    intro hall
    exact hb (List.all_eq_true.1 hall k (List.mem_range.2 hk))
  refine c_loop (fun k : Nat => k ≤ N ∧ ∀ u, u < k → B u = true) (fun k => [(1, vr), (2, .pointer (some ⟨b, 0, none⟩)), (5, vn), (6, .int .i64 (k : Int))]) (fun _ => [rowHP vn 36 1 N hn, starHP (kids rowN hn ((List.range N).map A)), boxHP b 24 (Value.agg #[.int .i64 (N : Int), v]).cells.toList]) (fun k => N - k) 0 [0, 0, 0] ⟨Nat.zero_le _, by omega⟩ rfl ⟨rfl, rfl, rfl, rfl, trivial⟩ ?_
  rintro k ⟨hk, hq⟩
  by_cases hlt : k < N
  · obtain ⟨hx, hhx⟩ : ∃ x, hr0[k]? = some x := ⟨_, List.getElem?_eq_getElem (by have := hR.len; omega)⟩
    obtain ⟨l, hl⟩ : ∃ l, ls[k]? = some l := ⟨_, List.getElem?_eq_getElem (by omega)⟩
    obtain ⟨hsx, hrx⟩ := hR.kid k hx l hhx hl
    obtain ⟨hy, hhy⟩ : ∃ x, hn[k]? = some x := ⟨_, List.getElem?_eq_getElem (by omega)⟩
    have hAk : ((List.range N).map A)[k]? = some (A k) := by simp [hlt]
    have hgd : ls.getD k [] = l := by rw [List.getD_eq_getElem?_getD, hl]; rfl
    have h1' : hr0[k * 1]? = some hx := by rw [Nat.mul_one]; exact hhx
    have h2' : hn[k * 1]? = some hy := by rw [Nat.mul_one]; exact hhy
    have hAlk := hAl k
    have hros : ∀ w1, St w No [rowHP vn 36 1 N hn, starHP (kids rowN hn ((List.range N).map A)), boxHP b 24 (Value.agg #[.int .i64 (N : Int), v]).cells.toList] w1 → ROs w1 No vn hn ((List.range N).map A) := fun w1 h => ros_own h (.head _) (by simp) (.tail _ (.head _))
    have hkk : rowHP hy 3 1 (A k).length (nV (A k)) ∈ kids rowN hn ((List.range N).map A) := kids_mem (f := rowN) hhy hAk
    repeat' first
      | refine k_then ?_
      | refine c_seq ?_
      | refine c_region ?_
      | refine s_nil ?_
      | refine s_move (by exact rfl) (by exact rfl) ?_
      | refine s_fa (by exact rfl) (by exact rfl) ?_
      | refine s_ld_box (by exact rfl) (by exact rfl) (by exact .tail _ (.tail _ (.head _))) (by exact rfl) ?_
      | refine s_lss (by exact rfl) (by exact rfl) (by exact rfl) ?_
      | refine c_block ?_
      | refine c_skip ?_
      | (refine c_cond_p (by exact rfl) (fun h => ?_) (fun h => ?_) <;> try (exfalso; omega))
    refine know_kid (.tail _ (.head _)) hkk fun hsy _ => ?_
    refine p_begin0 [(0, true), (1, true), (2, true), (3, true), (4, true), (5, true), (6, true), (7, true), (8, true), (9, true), (10, true)] (by kernel_rfl) ?_
    repeat' first
      | refine p_nil ?_
      | (refine p_at (by exact rfl) ?_
         first
          | refine t_move (by exact rfl) (by exact rfl) (by exact fun _ h => h) ?_
          | refine t_neq (by exact rfl) (by exact rfl) (by exact rfl) (by exact fun _ h => h) ?_
          | refine t_len (by exact rfl) (by exact rfl) (by assumption) (by exact fun _ h => h) ?_
          | refine t_idx (by exact rfl) (by exact rfl) (by exact rfl) (by assumption) (by first | assumption | omega) (by exact fun _ h => h) ?_
          | refine t_ld_ro (by exact rfl) (by exact rfl) (by assumption) (by assumption) (by exact fun _ h => h) ?_
          | refine t_ld_row (by exact rfl) (by exact rfl) (by exact .head _) (by assumption) (by exact fun _ h => h) ?_)
    have hBk := hBd k
    rw [hgd] at hBk
    repeat' first
      | refine k_then ?_
      | refine c_seq ?_
      | refine c_region ?_
      | refine s_nil ?_
      | refine s_assign (by exact rfl) (by exact rfl) ?_
      | refine c_block ?_
      | refine c_skip ?_
      | refine c_ret ?_
      | refine k_then_ret ?_
      | refine k_blk_ret ?_
      | (refine c_cond_p (by exact rfl) (fun h => ?_) (fun h => ?_) <;> try (exfalso; omega))
    · refine ret1 [] rfl rfl rfl ⟨?_, rfl⟩
      rw [hbad k hlt fun hb => by have := (hBk.1 hb).1; omega]
    refine c_loop (fun j : Nat => j ≤ (A k).length ∧ ∀ u ∈ (A k).take j, (u : Int) ∈ l) (fun j => [(1, vr), (2, .pointer (some ⟨b, 0, none⟩)), (5, vn), (6, .int .i64 (k : Int)), (7, .int .i64 (j : Int))]) (fun _ => [rowHP vn 36 1 N hn, starHP (kids rowN hn ((List.range N).map A)), boxHP b 24 (Value.agg #[.int .i64 (N : Int), v]).cells.toList]) (fun j => (A k).length - j) 0 [0, 0, 0] ⟨Nat.zero_le _, by simp⟩ rfl ⟨rfl, rfl, rfl, rfl, rfl, trivial⟩ ?_
    rintro j ⟨hj, hjq⟩
    by_cases hjl : j < (A k).length
    · have h3' := nV_get hjl
      repeat' first
        | refine k_then ?_
        | refine c_seq ?_
        | refine c_region ?_
        | refine s_nil ?_
        | refine s_move (by exact rfl) (by exact rfl) ?_
        | refine s_lss (by exact rfl) (by exact rfl) (by exact rfl) ?_
        | refine s_len (by exact rfl) (by exact rfl) (by assumption) ?_
        | refine s_idx (by exact rfl) (by exact rfl) (by exact rfl) (by assumption) (by first | assumption | omega) ?_
        | refine s_ld_row (by exact rfl) (by exact rfl) (by exact .head _) (by assumption) ?_
        | refine c_block ?_
        | refine c_skip ?_
        | (refine c_cond_p (by exact rfl) (fun h => ?_) (fun h => ?_) <;> try (exfalso; omega))
      refine p_begin0 [(0, true), (1, true), (2, true), (3, true), (4, true), (5, true), (6, true), (7, true), (8, true), (9, true), (10, true), (11, false), (12, true)] (by kernel_rfl) ?_
      repeat' first
        | (refine p_at (by exact rfl) ?_
           first
            | refine t_move (by exact rfl) (by exact rfl) (by exact fun _ h => h) ?_
            | refine t_idx (by exact rfl) (by exact rfl) (by exact rfl) (by assumption) (by first | assumption | omega) (by exact fun _ h => h) ?_
            | refine t_ld_ro (by exact rfl) (by exact rfl) (by assumption) (by assumption) (by exact fun _ h => h) ?_
            | refine t_ld_row (by exact rfl) (by exact rfl) (by exact .head _) (by assumption) (by exact fun _ h => h) ?_
            | refine t_ld_kid (by exact rfl) (by exact rfl) (by assumption) (by exact .tail _ (.head _)) (by assumption) (by exact fun _ h => h) ?_)
      refine p_call (gd := none) (by exact rfl) rfl (by exact rfl) (fun w h => Has_ok hx l ((A k).getD j 0 : Nat) w hsx (ro_old h hrx)) (by exact fun _ h => h) ?_
      have hgj : (A k)[j]? = some ((A k).getD j 0) := by rw [List.getD_eq_getElem?_getD, List.getElem?_eq_getElem hjl]; rfl
      by_cases hin : ((A k).getD j 0 : Int) ∈ l
      · rw [decide_eq_true hin]
        repeat' first
          | refine p_nil ?_
          | (refine p_at (by exact rfl) ?_
             first
              | refine t_not (by exact rfl) (by exact rfl) (by exact fun _ h => h) ?_)
        repeat' first
          | refine k_then ?_
          | refine c_region ?_
          | refine s_nil ?_
          | refine s_move (by exact rfl) (by exact rfl) ?_
          | refine s_assign (by exact rfl) (by exact rfl) ?_
          | refine s_add (by exact rfl) (by exact rfl) (by exact rfl) (by omega) ?_
          | refine c_skip ?_
          | refine k_blk ?_
          | refine c_cond_f (by exact rfl) ?_
        refine c_round (j + 1) [0, 0, 0] (by exact rfl) (by exact ⟨rfl, rfl, rfl, rfl, rfl, trivial⟩) ⟨by omega, fun u hu => ?_⟩ (by omega)
        rw [List.take_add_one, hgj] at hu
        rcases List.mem_append.1 hu with hu | hu
        · exact hjq u hu
        · obtain rfl : u = (A k).getD j 0 := by simpa using hu
          exact hin
      · rw [decide_eq_false hin]
        repeat' first
          | refine p_nil ?_
          | (refine p_at (by exact rfl) ?_
             first
              | refine t_not (by exact rfl) (by exact rfl) (by exact fun _ h => h) ?_)
        repeat' first
          | refine k_then ?_
          | refine c_seq ?_
          | refine c_region ?_
          | refine s_nil ?_
          | refine s_assign (by exact rfl) (by exact rfl) ?_
          | refine c_ret ?_
          | refine k_then_ret ?_
          | refine k_blk_ret ?_
          | refine c_cond_t (by exact rfl) ?_
        refine ret1 [] rfl rfl rfl ⟨?_, rfl⟩
        rw [hbad k hlt fun hb => hin ((hBk.1 hb).2 _ (List.mem_of_getElem? hgj))]
    · repeat' first
        | refine k_then ?_
        | refine c_seq ?_
        | refine c_region ?_
        | refine s_nil ?_
        | refine s_move (by exact rfl) (by exact rfl) ?_
        | refine s_assign (by exact rfl) (by exact rfl) ?_
        | refine s_lss (by exact rfl) (by exact rfl) (by exact rfl) ?_
        | refine s_add (by exact rfl) (by exact rfl) (by exact rfl) (by omega) ?_
        | refine s_len (by exact rfl) (by exact rfl) (by assumption) ?_
        | refine s_idx (by exact rfl) (by exact rfl) (by exact rfl) (by assumption) (by first | assumption | omega) ?_
        | refine s_ld_row (by exact rfl) (by exact rfl) (by exact .head _) (by assumption) ?_
        | refine c_exit ?_
        | refine k_then_exit ?_
        | refine k_blk ?_
        | refine k_blk_eq ?_
        | (refine c_cond_p (by exact rfl) (fun h => ?_) (fun h => ?_) <;> try (exfalso; omega))
      rw [List.take_of_length_le (by omega)] at hjq
      refine c_round (k + 1) [0, 0, 0] (by exact rfl) (by exact ⟨rfl, rfl, rfl, rfl, trivial⟩) ⟨by omega, fun u hu => ?_⟩ (by omega)
      by_cases e : u = k
      · rw [e]; exact hBk.2 ⟨by omega, hjq⟩
      · exact hq u (by omega)
  · repeat' first
      | refine k_then ?_
      | refine c_seq ?_
      | refine c_region ?_
      | refine s_nil ?_
      | refine s_move (by exact rfl) (by exact rfl) ?_
      | refine s_assign (by exact rfl) (by exact rfl) ?_
      | refine s_fa (by exact rfl) (by exact rfl) ?_
      | refine s_ld_box (by exact rfl) (by exact rfl) (by exact .tail _ (.tail _ (.head _))) (by exact rfl) ?_
      | refine s_lss (by exact rfl) (by exact rfl) (by exact rfl) ?_
      | refine c_exit ?_
      | refine c_ret ?_
      | refine k_then_exit ?_
      | refine k_blk_eq ?_
      | (refine c_cond_p (by exact rfl) (fun h => ?_) (fun h => ?_) <;> try (exfalso; omega))
    refine ret1 [] rfl rfl rfl ⟨?_, rfl⟩
    rw [if_pos]
    rw [List.all_eq_true]
    intro u hu
    exact hq u (by have := List.mem_range.1 hu; omega)
end Go.Proofs.Ytpajjnkmaebhcaa
end
section
set_option linter.unusedVariables false
set_option linter.unusedSimpArgs false
namespace Go.Sl
open Go Go.RowKit
section
variable {P : Program} {w0 : World} {S0 : FS} {n : Nat} {F : List (Nat × Value)} {L Lk : List HP} {ops : Array Oper} {Q : Exit → Act → World → Prop}
/-- the end of the first phase: what the second one asks -/
def cutK (P : Program) (ops : Array Oper) (Q : Exit → Act → World → Prop) (plan : List PI) : Exit → Act → World → Prop
  | .normal, a, w => ∃ S : World → Prop, S w ∧ PW P ops Q S plan a w
  | e, a, w => Q e a w
instance {plan : List PI} [T : PO Q] : PO (cutK P ops Q plan) := ⟨fun c a d v w h => T.ok c a d v w h⟩
end
end Go.Sl
end
section
set_option linter.unusedVariables false
namespace Fil
/-- k pairs swapped, from both ends -/
def revK (l : List Int) (k : Nat) : List Int := (List.range l.length).map fun t => if t < k ∨ l.length - 1 - t < k then l.getD (l.length - 1 - t) 0 else l.getD t 0
theorem revK_length (l : List Int) (k : Nat) : (revK l k).length = l.length := by simp [revK]
theorem revK_get {l : List Int} {k t : Nat} (ht : t < l.length) : (revK l k).getD t 0 = if t < k ∨ l.length - 1 - t < k then l.getD (l.length - 1 - t) 0 else l.getD t 0 := by
  rw [revK, List.getD_eq_getElem?_getD, List.getElem?_map, List.getElem?_range ht]; rfl
theorem list_getD_ext {a b : List Int} (hl : a.length = b.length) (h : ∀ t, t < a.length → a.getD t 0 = b.getD t 0) : a = b := by
  apply List.ext_getElem hl
  intro t h1 h2
  have := h t h1
  rwa [List.getD_eq_getElem?_getD, List.getD_eq_getElem?_getD, List.getElem?_eq_getElem h1, List.getElem?_eq_getElem h2] at this
theorem revK_zero (l : List Int) : revK l 0 = l := list_getD_ext (revK_length l 0) fun t ht => by
  rw [revK_length] at ht
  rw [revK_get ht, if_neg (by omega)]
theorem getD_setI (l : List Int) (i : Nat) (x : Int) (j : Nat) : (l.set i x).getD j 0 = if i = j ∧ i < l.length then x else l.getD j 0 := by
  rw [List.getD_eq_getElem?_getD, List.getElem?_set, List.getD_eq_getElem?_getD]
  by_cases h : i = j
  · subst h
    rw [if_pos rfl]
    by_cases h2 : i < l.length
    · rw [if_pos h2, if_pos ⟨rfl, h2⟩]; rfl
    · rw [if_neg h2, if_neg (fun h => h2 h.2), List.getElem?_eq_none (by omega)]
  · rw [if_neg h, if_neg (fun h' => h h'.1)]
theorem revK_step {l : List Int} {k : Nat} (hk : k < l.length - 1 - k) : ((revK l k).set k ((revK l k).getD (l.length - 1 - k) 0)).set (l.length - 1 - k) ((revK l k).getD k 0) = revK l (k + 1) := list_getD_ext (by simp [revK_length]) fun t ht => by
  simp only [List.length_set, revK_length] at ht
  rw [getD_setI, getD_setI, List.length_set, revK_length, revK_get (by omega), revK_get (by omega), revK_get ht, revK_get ht]
  by_cases h1 : l.length - 1 - k = t
  · rw [if_pos ⟨h1, by omega⟩, if_neg (by omega), if_pos (by omega)]
    congr 1; omega
  · rw [if_neg (fun h => h1 h.1)]
    by_cases h2 : k = t
    · subst h2
      rw [if_pos ⟨rfl, by omega⟩, if_neg (by omega), if_pos (by omega)]
    · rw [if_neg (fun h => h2 h.1)]
      by_cases h3 : t < k ∨ l.length - 1 - t < k
      · rw [if_pos h3, if_pos (by omega)]
      · rw [if_neg h3, if_neg (by omega)]
theorem revK_all {l : List Int} {k : Nat} (hk : l.length ≤ 2 * k + 1) : revK l k = l.reverse := list_getD_ext (by simp [revK_length]) fun t ht => by
  rw [revK_length] at ht
  rw [revK_get ht, List.getD_eq_getElem?_getD (l := l.reverse), List.getElem?_reverse ht, ← List.getD_eq_getElem?_getD]
  by_cases h : t < k ∨ l.length - 1 - t < k
  · rw [if_pos h]
  · rw [if_neg h]
    congr 1; omega
end Fil
namespace Fil
/-- the first k rows, from behind -/
def mirK (ls : List (List Int)) (k : Nat) : List (List Int) := (ls.take k).map List.reverse ++ List.replicate (ls.length - k) []
theorem mirK_zero (ls : List (List Int)) : mirK ls 0 = List.replicate ls.length [] := by simp [mirK]
theorem mirK_all (ls : List (List Int)) : mirK ls ls.length = ls.map List.reverse := by simp [mirK]
theorem mirK_length {ls : List (List Int)} {k : Nat} (h : k ≤ ls.length) : (mirK ls k).length = ls.length := by simp [mirK]; omega
theorem mirK_set {ls : List (List Int)} {k : Nat} {l : List Int} (h : ls[k]? = some l) : (mirK ls k).set k l.reverse = mirK ls (k + 1) := by
  have hk := (List.getElem?_eq_some_iff.1 h).1
  have e1 : ls.length - k = (ls.length - (k + 1)) + 1 := by omega
  rw [mirK, mirK, e1, List.replicate_succ, List.set_append_right _ _ (by simp; omega), List.take_add_one, h]
  simp only [List.length_map, List.length_take, Option.toList_some, List.map_append, List.map_cons, List.map_nil, List.append_assoc]
  rw [show k - min k ls.length = 0 by omega]
  rfl
end Fil
namespace Go.Sl
open Go Go.RowKit Fil
def rowI (h : Value) (l : List Int) : HP := rowHP h 3 1 l.length (iV l)
end Go.Sl
namespace Go.Proofs.Ytpajjnkmaebhcaa
open Go Go.RowKit Go.Sl Fil
set_option maxRecDepth 100000
set_option maxHeartbeats 8000000
set_option linter.unusedVariables false
set_option linter.unusedSimpArgs false
attribute [local irreducible] Code.wp wpList bodyPost wpQuiet Exit.then Exit.inBlock Post wpAnyH wpOp
theorem Reverse_ok (v : Value) (l : List Int) (w : World) (S : FS) (hsat : sats [rowHP v 3 1 l.length (iV l)] S w) :
    Calls Try.prog 59 #[v] w (Post w S fun r L' => r = .tuple #[] ∧ L' = [rowHP v 3 1 l.length (iV l.reverse)]) := by
  refine enter (vs := [_]) Try.func59 rfl Try.ntmps59 rfl hsat ?_
  refine know_row (v := v) (.head _) fun hv _ => ?_
  have hm := hv.1
  simp only [maxLen] at hm
  repeat' first
    | refine k_then ?_
    | refine c_seq ?_
    | refine c_region ?_
    | refine s_nil ?_
    | refine s_move (by exact rfl) (by exact rfl) ?_
    | refine s_assign (by exact rfl) (by exact rfl) ?_
    | refine s_sub (by exact rfl) (by exact rfl) (by exact rfl) (by omega) ?_
    | refine s_len (by exact rfl) (by exact rfl) (by assumption) ?_
    | refine c_block ?_
    | fail
  refine c_loop (fun k : Nat => 2 * k ≤ l.length) (fun k => [(0, v), (2, .int .i64 (k : Int)), (3, .int .i64 ((l.length : Int) - 1 - (k : Int)))]) (fun k => [rowHP v 3 1 l.length (iV (revK l k))]) (fun k => l.length - k) 0 [0] (Nat.zero_le _) (by rw [revK_zero]; exact rfl) (by rw [show (l.length : Int) - 1 - ((0 : Nat) : Int) = (l.length : Int) - 1 by omega]; exact ⟨rfl, rfl, rfl, trivial⟩) ?_
  rintro k hk
  by_cases hlt : k < l.length - 1 - k
  · have hrl := revK_length l k
    have e1 : (l.length : Int) - 1 - (k : Int) = ((l.length - 1 - k : Nat) : Int) := by omega
    rw [e1]
    have hst := revK_step hlt
    generalize hj : l.length - 1 - k = j at *
    have g1 := iV_get (l := revK l k) (k := k) (by omega)
    have g2 := iV_get (l := revK l k) (k := j) (by omega)
    repeat' first
      | refine k_then ?_
      | refine c_seq ?_
      | refine c_region ?_
      | refine s_nil ?_
      | refine s_move (by exact rfl) (by exact rfl) ?_
      | refine s_lss (by exact rfl) (by exact rfl) (by exact rfl) ?_
      | refine c_block ?_
      | refine c_skip ?_
      | (refine c_cond_p (by exact rfl) (fun h => ?_) (fun h => ?_) <;> try (exfalso; omega))
      | fail
    refine p_begin [(0, true), (1, true), (2, true), (3, true), (4, true), (5, true), (6, true), (8, true), (9, true), (10, true), .rd 7 11, (12, true), (13, false), (14, true), (15, false)] [] (by kernel_rfl) ?_
    repeat' first
      | (refine p_at (by exact rfl) ?_
         first
          | refine t_move (by exact rfl) (by exact rfl) (by exact fun _ h => h.tl) ?_
          | refine t_idx (by exact rfl) (by exact rfl) (by exact rfl) (by assumption) (by first | assumption | omega) (by exact fun _ h => h.tl) ?_
          | fail)
      | fail
    refine p_rd ?_ ?_
    all_goals
      repeat' first
        | (refine p_at (by exact rfl) ?_
           first
            | refine t_idx (by exact rfl) (by exact rfl) (by exact rfl) (by assumption) (by first | assumption | omega) (by exact fun _ h => h.tl) ?_
            | refine r_ld_row (by exact rfl) (by exact rfl) (by exact .head _) (by assumption) (by exact fun _ h => h.tl) ?_
            | fail)
        | fail
      refine p_st_row (j := 0) (by exact rfl) (by exact rfl) (by exact rfl) (by exact rfl) rfl (by omega) (fun w h => h.pick [] (by exact rfl)) ?_
      repeat' first
        | (refine p_at (by exact rfl) ?_
           first
            | refine t_idx (by exact rfl) (by exact rfl) (by exact rfl) (by assumption) (by first | assumption | omega) (by exact fun _ h => h.tl) ?_
            | fail)
        | fail
      refine p_st_row (j := 0) (by exact rfl) (by exact rfl) (by exact rfl) (by exact rfl) rfl (by omega) (fun w h => h.pick [] (by exact rfl)) ?_
      repeat' first
        | refine p_nil ?_
        | fail
      repeat' first
        | refine k_then ?_
        | refine c_region ?_
        | refine s_nil ?_
        | refine s_move (by exact rfl) (by exact rfl) ?_
        | refine s_assign (by exact rfl) (by exact rfl) ?_
        | refine s_add (by exact rfl) (by exact rfl) (by exact rfl) (by omega) ?_
        | refine s_sub (by exact rfl) (by exact rfl) (by exact rfl) (by omega) ?_
        | refine k_blk ?_
        | fail
      refine c_round (k + 1) [0] ?_ (by rw [show (l.length : Int) - 1 - ((k + 1 : Nat) : Int) = (j : Int) - 1 by omega]; exact ⟨rfl, rfl, rfl, trivial⟩) (by omega) (by omega)
      rw [iV_set, iV_set, hst]
      exact rfl
  · repeat' first
      | refine k_then ?_
      | refine c_seq ?_
      | refine c_region ?_
      | refine s_nil ?_
      | refine s_move (by exact rfl) (by exact rfl) ?_
      | refine s_lss (by exact rfl) (by exact rfl) (by exact rfl) ?_
      | refine c_exit ?_
      | refine k_then_exit ?_
      | refine k_blk_eq ?_
      | (refine c_cond_p (by exact rfl) (fun h => ?_) (fun h => ?_) <;> try (exfalso; omega))
      | fail
    refine ret0 [0] rfl (by exact rfl) ⟨rfl, ?_⟩
    rw [revK_all (by omega)]
theorem rotMirror_ok (vr : Value) (hr0 : List Value) (ls : List (List Int)) (w : World) (hR : ROsI w No vr hr0 ls) (hN : ls.length ≤ 1048576) (hle : ∀ l ∈ ls, l.length ≤ 1048576) :
    Calls Try.prog 29 #[vr] w (Post w No fun r L' => ∃ ho : List Value, ho.length = ls.length ∧ L' = [rowHP r 36 1 ls.length ho, starHP (kids rowI ho (ls.map List.reverse))]) := by
  have hsr := hR.shp
  have hrr := hR.ro
  refine enter0 (vs := [_]) Try.func29 rfl Try.ntmps29 rfl ?_
  repeat' first
    | refine k_then ?_
    | refine c_seq ?_
    | refine c_region ?_
    | refine s_nil ?_
    | refine s_move (by exact rfl) (by exact rfl) ?_
    | refine s_assign (by exact rfl) (by exact rfl) ?_
    | refine s_len (by exact rfl) (by exact rfl) (by assumption) ?_
    | fail
  refine o_make (by exact rfl) (by exact rfl) (by exact rfl) (by omega) (by omega) fun vo hvo => ?_
  repeat' first
    | refine k_then ?_
    | refine c_seq ?_
    | refine c_region ?_
    | refine s_nil ?_
    | refine s_move (by exact rfl) (by exact rfl) ?_
    | refine s_assign (by exact rfl) (by exact rfl) ?_
    | refine s_len (by exact rfl) (by exact rfl) (by assumption) ?_
    | refine c_block ?_
    | fail
  refine c_nils 3 1 ls.length ?_
  refine c_loop (fun x : Nat × List Value => x.1 ≤ ls.length ∧ x.2.length = ls.length) (fun x => [(3, vo), (9, vr), (10, .int .i64 (ls.length : Int)), (11, .int .i64 (x.1 : Int))])
    (fun x => [rowHP vo 36 1 ls.length x.2, starHP (kids rowI x.2 (mirK ls x.1))]) (fun x => ls.length - x.1) (0, List.replicate ls.length (.slice none 0 0)) [1, 0] ⟨Nat.zero_le _, by simp⟩ ?_ ⟨rfl, rfl, rfl, rfl, trivial⟩ ?_
  · have z1 : (madeCells (Value.slice none 0 0).cells ((ls.length : Int).toNat * 1)).toList = List.replicate ls.length (.slice none 0 0) := by rw [made1 rfl]; rfl
    rw [z1, mirK_zero, kids_nils]
    exact rfl
  rintro ⟨k, ho⟩ ⟨hk, hol⟩
  dsimp only at hk hol ⊢
  by_cases hlt : k < ls.length
  · obtain ⟨hx, hhx⟩ : ∃ x, hr0[k]? = some x := ⟨_, List.getElem?_eq_getElem (by have := hR.len; omega)⟩
    obtain ⟨l, hl⟩ : ∃ l, ls[k]? = some l := ⟨_, List.getElem?_eq_getElem hlt⟩
    obtain ⟨hsx, hrx⟩ := hR.kid k hx l hhx hl
    have h1' : hr0[k * 1]? = some hx := by rw [Nat.mul_one]; exact hhx
    repeat' first
      | refine k_then ?_
      | refine c_seq ?_
      | refine c_region ?_
      | refine s_nil ?_
      | refine s_move (by exact rfl) (by exact rfl) ?_
      | refine s_assign (by exact rfl) (by exact rfl) ?_
      | refine s_lss (by exact rfl) (by exact rfl) (by exact rfl) ?_
      | refine s_idx (by exact rfl) (by exact rfl) (by exact rfl) (by assumption) (by first | assumption | omega) ?_
      | refine s_ld_ro (by exact rfl) (by exact rfl) (by assumption) (by assumption) ?_
      | refine c_block ?_
      | refine c_skip ?_
      | (refine c_cond_p (by exact rfl) (fun h => ?_) (fun h => ?_) <;> try (exfalso; omega))
      | fail
    refine o_call (by exact rfl) (by exact rfl) (fun w h => CloneI_ok hx l w hsx (ro_old h hrx) (hle l (List.mem_of_getElem? hl))) ?_
    rintro vk _ rfl
    refine know_row (v := vk) (.head _) fun hvk _ => ?_
    repeat' first
      | refine s_idx (by exact rfl) (by exact rfl) (by exact rfl) (by assumption) (by first | assumption | omega) ?_
      | fail
    refine o_st_row (i := 1) (by exact rfl) (by exact rfl) (by exact rfl) hvk.one (by omega) ?_
    have hat : (ho.set (k * 1) vk)[k * 1]? = some vk := by rw [Nat.mul_one, List.getElem?_set, if_pos rfl, if_pos (by omega)]
    repeat' first
      | refine k_then ?_
      | refine c_region ?_
      | refine s_nil ?_
      | refine s_move (by exact rfl) (by exact rfl) ?_
      | refine s_idx (by exact rfl) (by exact rfl) (by exact rfl) (by assumption) (by first | assumption | omega) ?_
      | refine s_ld_row (by exact rfl) (by exact rfl) (by exact .tail _ (.head _)) (by assumption) ?_
      | fail
    refine s_lend [rowHP vk 3 1 l.length (iV l)] _ (by exact rfl) (by exact rfl) (by exact rfl) (fun w S h => Reverse_ok vk l w S h.own) ?_
    rintro _ _ ⟨rfl, rfl⟩
    repeat' first
      | refine k_then ?_
      | refine c_region ?_
      | refine s_nil ?_
      | refine s_move (by exact rfl) (by exact rfl) ?_
      | refine s_add (by exact rfl) (by exact rfl) (by exact rfl) (by omega) ?_
      | refine k_blk ?_
      | fail
    refine c_give 1 k (by exact rfl) (by rw [kids_length (by rw [mirK_length hk]; exact hol), mirK_length hk]; exact hlt) ?_
    refine c_round (k + 1, ho.set k vk) [0, 0] ?_ ⟨rfl, rfl, rfl, rfl, trivial⟩ ⟨by dsimp only; omega, by dsimp only; rw [List.length_set]; exact hol⟩ (by dsimp only; omega)
    dsimp only
    rw [Nat.mul_one, ← mirK_set hl, ← kids_put, show rowI vk l.reverse = rowHP vk 3 1 l.length (iV l.reverse) from by rw [rowI, List.length_reverse]]
    exact rfl
  · repeat' first
      | refine k_then ?_
      | refine c_seq ?_
      | refine c_region ?_
      | refine s_nil ?_
      | refine s_move (by exact rfl) (by exact rfl) ?_
      | refine s_assign (by exact rfl) (by exact rfl) ?_
      | refine s_lss (by exact rfl) (by exact rfl) (by exact rfl) ?_
      | refine c_exit ?_
      | refine c_ret ?_
      | refine k_then_exit ?_
      | refine k_blk_eq ?_
      | (refine c_cond_p (by exact rfl) (fun h => ?_) (fun h => ?_) <;> try (exfalso; omega))
      | fail
    obtain rfl : k = ls.length := by omega
    refine ret1 [0, 0] rfl rfl rfl ⟨ho, hol, ?_⟩
    rw [mirK_all]
end Go.Proofs.Ytpajjnkmaebhcaa
end
section
set_option linter.unusedVariables false
namespace Fil
open Go.Sl
theorem st_get {α : Type} {p : α → α} : ∀ {l : List α} {s t : α}, st p l s t → ∀ (j : Nat) (h : j + 1 < l.length), p l[j] = l[j + 1]
  | [], _, _, _, j, h => by simp at h
  | [a], _, _, _, j, h => by simp at h
  | a :: b :: l, s, t, ⟨h1, h2⟩, j, h => by
    cases j with
    | zero => exact h2.1
    | succ j => exact st_get h2 j (by simpa using h)
theorem cy_next {α : Type} [DecidableEq α] {p : α → α} {f : List α} (h : Cy p f) {j : Nat} (hj : j < f.length) : p f[j] = f[(j + 1) % f.length]'(Nat.mod_lt _ (by omega)) := by
  obtain ⟨hne, s, hs⟩ := h
  by_cases h1 : j + 1 < f.length
  · simp only [Nat.mod_eq_of_lt h1]
    exact st_get hs j h1
  · have e : j = f.length - 1 := by omega
    have e2 : (j + 1) % f.length = 0 := by rw [show j + 1 = f.length by omega, Nat.mod_self]
    simp only [e2]
    have h2 := st_last hne hs
    rw [List.getLast_eq_getElem] at h2
    subst e
    rw [h2]
    cases f with
    | nil => exact absurd rfl hne
    | cons a f => exact hs.1
theorem nextK_nxt {R : List (List Nat)} {d : Nat × Nat} (h1 : d.2 < R.length) (h2 : d.1 ∈ rf R d.2) : nextK (intL R) (d.1 : Int) (d.2 : Int) = (((nxt (rf R) d).1 : Int), ((nxt (rf R) d).2 : Int), true) := by
  have hl : (intL R).length = R.length := by simp [intL]
  have hg : (intL R).getD d.2 [] = (rf R d.2).map fun (k : Nat) => (k : Int) := by
    rw [List.getD_eq_getElem?_getD, intL, List.getElem?_map, rf, List.getD_eq_getElem?_getD, List.getElem?_eq_getElem h1]; rfl
  rw [nextK, if_neg (by rw [hl]; omega), show (d.2 : Int).toNat = d.2 by omega, hg]
  have hi : (rf R d.2).idxOf d.1 < (rf R d.2).length := List.idxOf_lt_length_of_mem h2
  have hf : ((rf R d.2).map fun (k : Nat) => (k : Int)).findIdx? (fun y => decide (y = (d.1 : Int))) = some ((rf R d.2).idxOf d.1) := by
    rw [List.findIdx?_eq_some_iff_getElem]
    refine ⟨by simpa using hi, ?_, fun j hj => ?_⟩
    · rw [List.getElem_map, List.getElem_idxOf]; simp
    · rw [List.getElem_map]
      have h3 : (rf R d.2)[j]'(by omega) ≠ d.1 := by
        have := List.not_of_lt_findIdx hj
        simpa [List.idxOf] using this
      simp only [decide_eq_true_eq]
      omega
  rw [hf]
  have hm : ((rf R d.2).idxOf d.1 + 1) % (rf R d.2).length < (rf R d.2).length := Nat.mod_lt _ (by omega)
  simp only [List.length_map]
  rw [List.getD_eq_getElem?_getD, List.getElem?_map, List.getElem?_eq_getElem hm, nxt, cyc, List.getD_eq_getElem?_getD, List.getElem?_eq_getElem hm]
  rfl
theorem rf_mirror (R : List (List Nat)) (v : Nat) : rf (R.map List.reverse) v = (rf R v).reverse := by
  rw [rf, rf, List.getD_eq_getElem?_getD, List.getD_eq_getElem?_getD, List.getElem?_map]
  cases R[v]? <;> rfl
theorem RotL.rev {N : Nat} {l : List (Nat × Nat)} {R : List (List Nat)} (h : RotL N l R) : RotL N l (R.map List.reverse) :=
  ⟨by simpa using h.len, fun v hv => by rw [rf_mirror]; exact (List.reverse_perm _).trans (h.perm v hv)⟩
end Fil
end
section
namespace Go.Proofs.Ytpajjnkmaebhcaa
open Go.RowKit Go.Sl Fil
set_option maxRecDepth 100000
set_option maxHeartbeats 8000000
set_option linter.unusedVariables false
set_option linter.unusedSimpArgs false
attribute [local irreducible] Code.wp wpList bodyPost wpQuiet Exit.then Exit.inBlock Post wpAnyH wpOp
theorem Labels_ok (n : Int) (v : Value) (es : List E) (w : World) (hs : Shp v es.length) (hr : RO w No v (esV es)) (hR : RightG n es) :
    Calls Try.prog 60 #[.agg #[.int .i64 n, v]] w (Post w No fun r L' => L' = [rowHP r 3 1 n.toNat (nV (rounds relaxL (tn es) n.toNat (List.range n.toNat)))]) := by
  have hm : es.length < 4611686018427387904 := by have := hR.many; omega
  have hlo := hR.lo
  have hhi := hR.hi
  refine enter0 (vs := [_]) Try.func60 rfl Try.ntmps60 rfl ?_
  repeat' first
    | refine k_then ?_
    | refine c_seq ?_
    | refine c_region ?_
    | refine s_nil ?_
    | refine s_assign (by exact rfl) (by exact rfl) ?_
    | refine s_fa (by exact rfl) (by exact rfl) ?_
    | refine s_ld_box (by exact rfl) (by exact rfl) (by exact .head _) (by exact rfl) ?_
    | refine o_box (by exact rfl) (by exact rfl) (fun b => ?_)
  refine o_make (by exact rfl) (by exact rfl) (by exact rfl) (by omega) (by omega) fun vl hvl => ?_
  rw [made1 (z := .int .i64 0) rfl]
  repeat' first
    | refine k_then ?_
    | refine c_seq ?_
    | refine c_region ?_
    | refine s_nil ?_
    | refine s_assign (by exact rfl) (by exact rfl) ?_
    | refine c_block ?_
  generalize hN : n.toNat = N at *
  have hnN : n = (N : Int) := by omega
  subst hnN
  refine c_loop (fun i : Nat => i ≤ N) (fun i => [(1, .pointer (some ⟨b, 0, none⟩)), (3, vl), (4, .int .i64 (i : Int))]) (fun i => [rowHP vl 3 1 N (nV (fillL id 0 N i)), boxHP b 24 [.int .i64 (N : Int), v]]) (fun i => N - i) 0 [0, 0] (Nat.zero_le _) (by rw [fill_zero]; simp only [nV, List.map_replicate]; rfl) ⟨rfl, rfl, rfl, trivial⟩ ?_
  intro i hi
  by_cases hil : i < N
  · repeat' first
      | refine k_then ?_
      | refine c_seq ?_
      | refine c_region ?_
      | refine s_nil ?_
      | refine s_move (by exact rfl) (by exact rfl) ?_
      | refine s_fa (by exact rfl) (by exact rfl) ?_
      | refine s_ld_box (by exact rfl) (by exact rfl) (by exact .tail _ (.head _)) (by exact rfl) ?_
      | refine s_lss (by exact rfl) (by exact rfl) (by exact rfl) ?_
      | refine s_idx (by exact rfl) (by exact rfl) (by exact rfl) (by assumption) (by first | assumption | omega) ?_
      | refine c_block ?_
      | refine c_skip ?_
      | (refine c_cond_p (by exact rfl) (fun h => ?_) (fun h => ?_) <;> try (exfalso; omega))
    refine o_st_row (i := 0) (by exact rfl) (by exact rfl) (by exact rfl) rfl (by omega) ?_
    repeat' first
      | refine k_then ?_
      | refine c_region ?_
      | refine s_nil ?_
      | refine s_move (by exact rfl) (by exact rfl) ?_
      | refine s_assign (by exact rfl) (by exact rfl) ?_
      | refine s_add (by exact rfl) (by exact rfl) (by exact rfl) (by omega) ?_
      | refine k_blk ?_
    refine c_round (i + 1) [0, 0] (by rw [nV_set, ← fill_set id 0 hil]; rfl) (by exact ⟨rfl, rfl, rfl, trivial⟩) (by omega) (by omega)
  · repeat' first
      | refine k_then ?_
      | refine c_seq ?_
      | refine c_region ?_
      | refine s_nil ?_
      | refine s_move (by exact rfl) (by exact rfl) ?_
      | refine s_assign (by exact rfl) (by exact rfl) ?_
      | refine s_fa (by exact rfl) (by exact rfl) ?_
      | refine s_ld_box (by exact rfl) (by exact rfl) (by exact .tail _ (.head _)) (by exact rfl) ?_
      | refine s_lss (by exact rfl) (by exact rfl) (by exact rfl) ?_
      | refine c_block ?_
      | refine c_exit ?_
      | refine k_then_exit ?_
      | refine k_blk_eq ?_
      | (refine c_cond_p (by exact rfl) (fun h => ?_) (fun h => ?_) <;> try (exfalso; omega))
    obtain rfl : i = N := by omega
    have hl0 : (List.range i).length = i := by simp
    have hlen : ∀ (r : List (Nat × Nat)) (c : List Nat), (r.foldl relaxL c).length = c.length := by
      intro r
      induction r with
      | nil => intro c; rfl
      | cons e r ih => intro c; rw [List.foldl_cons, ih]; simp [relaxL]
    have hrl : ∀ k, (rounds relaxL (tn es) k (List.range i)).length = i := by
      intro k
      induction k with
      | zero => simp [rounds]
      | succ k ih => rw [rounds, hlen, ih]
    refine c_loop (fun q : Nat => q ≤ i) (fun q => [(1, .pointer (some ⟨b, 0, none⟩)), (3, vl), (5, .int .i64 (q : Int))]) (fun q => [rowHP vl 3 1 i (nV (rounds relaxL (tn es) q (List.range i))), boxHP b 24 [.int .i64 (i : Int), v]]) (fun q => i - q) 0 [0, 0] (Nat.zero_le _) (by rw [fillL_all, List.map_id]; rfl) ⟨rfl, rfl, rfl, trivial⟩ ?_
    intro q hq
    by_cases hql : q < i
    · repeat' first
        | refine k_then ?_
        | refine c_seq ?_
        | refine c_region ?_
        | refine s_nil ?_
        | refine s_move (by exact rfl) (by exact rfl) ?_
        | refine s_assign (by exact rfl) (by exact rfl) ?_
        | refine s_fa (by exact rfl) (by exact rfl) ?_
        | refine s_ld_box (by exact rfl) (by exact rfl) (by exact .tail _ (.head _)) (by exact rfl) ?_
        | refine s_lss (by exact rfl) (by exact rfl) (by exact rfl) ?_
        | refine c_block ?_
        | refine c_skip ?_
        | (refine c_cond_p (by exact rfl) (fun h => ?_) (fun h => ?_) <;> try (exfalso; omega))
      generalize hc0 : rounds relaxL (tn es) q (List.range i) = c0 at *
      have hc0l : c0.length = i := by rw [← hc0]; exact hrl q
      refine c_loop (fun k : Nat => k ≤ es.length) (fun k => [(1, .pointer (some ⟨b, 0, none⟩)), (3, vl), (5, .int .i64 (q : Int)), (6, .int .i64 (k : Int))]) (fun k => [rowHP vl 3 1 i (nV ((tn (es.take k)).foldl relaxL c0)), boxHP b 24 [.int .i64 (i : Int), v]]) (fun k => es.length - k) 0 [0, 0] (Nat.zero_le _) (by exact rfl) ⟨rfl, rfl, rfl, rfl, trivial⟩ ?_
      intro k hk
      by_cases hkl : k < es.length
      · obtain ⟨e, he⟩ : ∃ e, es[k]? = some e := ⟨_, List.getElem?_eq_getElem hkl⟩
        obtain ⟨hE0, hE1, hE2⟩ := esV_get he
        obtain ⟨q1, q2, q3, -, -⟩ := hR.ok e (List.mem_of_getElem? he)
        have htk := tn_take he
        generalize hc : (tn (es.take k)).foldl relaxL c0 = c at *
        have hcl : c.length = i := by rw [← hc, hlen]; exact hc0l
        have hu := nV_get (l := c) (k := e.1.toNat) (by omega)
        have hv := nV_get (l := c) (k := e.2.1.toNat) (by omega)
        repeat' first
          | refine k_then ?_
          | refine c_seq ?_
          | refine c_region ?_
          | refine s_nil ?_
          | refine s_move (by exact rfl) (by exact rfl) ?_
          | refine s_fa (by exact rfl) (by exact rfl) ?_
          | refine s_ld_box (by exact rfl) (by exact rfl) (by exact .tail _ (.head _)) (by exact rfl) ?_
          | refine s_lss (by exact rfl) (by exact rfl) (by exact rfl) ?_
          | refine s_len (by exact rfl) (by exact rfl) (by assumption) ?_
          | refine c_block ?_
          | refine c_skip ?_
          | (refine c_cond_p (by exact rfl) (fun h => ?_) (fun h => ?_) <;> try (exfalso; omega))
        refine p_begin0 [(0, true), (1, true), (2, true), (3, true), (4, true), (5, true), (6, true), (7, true), (8, true), (9, true), (10, true), (11, true), (12, true), (13, true), (14, true), (15, true), (16, true), (17, true), (18, true), (19, true)] (by kernel_rfl) ?_
        repeat' first
          | refine p_nil ?_
          | (refine p_at (by exact rfl) ?_
             first
              | refine t_move (by exact rfl) (by exact rfl) (by exact fun _ h => h) ?_
              | refine t_assign (by exact rfl) (by exact rfl) (by exact fun _ h => h) ?_
              | refine t_fa (by exact rfl) (by exact rfl) (by exact fun _ h => h) ?_
              | refine t_ld_box (by exact rfl) (by exact rfl) (by exact .tail _ (.head _)) (by exact rfl) (by exact fun _ h => h) ?_
              | refine t_min (by exact rfl) (by exact rfl) (by exact rfl) (by exact fun _ h => h) ?_
              | refine t_idx (by exact rfl) (by exact rfl) (by exact rfl) (by assumption) (by first | assumption | omega) (by exact fun _ h => h) ?_
              | refine t_idxi (by exact rfl) (by exact rfl) (by exact rfl) (by assumption) (by first | assumption | omega) (by exact fun _ h => h) ?_
              | refine t_fap (by exact rfl) (by exact rfl) (by assumption) (by omega) (by exact fun _ h => h) ?_
              | refine t_ld_ro (by exact rfl) (by exact rfl) (by assumption) (by assumption) (by exact fun _ h => h) ?_
              | refine t_ld_row (by exact rfl) (by exact rfl) (by exact .head _) (by assumption) (by exact fun _ h => h) ?_)
        repeat' first
          | refine k_then ?_
          | refine c_seq ?_
          | refine c_region ?_
          | refine s_move (by exact rfl) (by exact rfl) ?_
          | refine s_fa (by exact rfl) (by exact rfl) ?_
          | refine s_ld_box (by exact rfl) (by exact rfl) (by exact .tail _ (.head _)) (by exact rfl) ?_
          | refine s_idx (by exact rfl) (by exact rfl) (by exact rfl) (by assumption) (by first | assumption | omega) ?_
          | refine s_idxi (by exact rfl) (by exact rfl) (by exact rfl) (by assumption) (by first | assumption | omega) ?_
          | refine s_fap (by exact rfl) (by exact rfl) (by assumption) (by omega) ?_
          | refine s_ld_ro (by exact rfl) (by exact rfl) (by assumption) (by assumption) ?_
        rw [show min ((c.getD e.1.toNat 0 : Nat) : Int) ((c.getD e.2.1.toNat 0 : Nat) : Int) = ((min (c.getD e.1.toNat 0) (c.getD e.2.1.toNat 0) : Nat) : Int) from by omega]
        refine o_st_row (i := 0) (by exact rfl) (by exact rfl) (by exact rfl) rfl (by omega) ?_
        repeat' first
          | refine k_then ?_
          | refine c_region ?_
          | refine s_nil ?_
          | refine s_move (by exact rfl) (by exact rfl) ?_
          | refine s_fa (by exact rfl) (by exact rfl) ?_
          | refine s_ld_box (by exact rfl) (by exact rfl) (by exact .tail _ (.head _)) (by exact rfl) ?_
          | refine s_idx (by exact rfl) (by exact rfl) (by exact rfl) (by assumption) (by first | assumption | omega) ?_
          | refine s_idxi (by exact rfl) (by exact rfl) (by exact rfl) (by assumption) (by first | assumption | omega) ?_
          | refine s_fap (by exact rfl) (by exact rfl) (by assumption) (by omega) ?_
          | refine s_ld_ro (by exact rfl) (by exact rfl) (by assumption) (by assumption) ?_
        refine o_st_row (i := 0) (by exact rfl) (by exact rfl) (by exact rfl) rfl (by omega) ?_
        repeat' first
          | refine k_then ?_
          | refine c_region ?_
          | refine s_nil ?_
          | refine s_move (by exact rfl) (by exact rfl) ?_
          | refine s_assign (by exact rfl) (by exact rfl) ?_
          | refine s_add (by exact rfl) (by exact rfl) (by exact rfl) (by omega) ?_
          | refine k_blk ?_
        refine c_round (k + 1) [0, 0] ?_ (by exact ⟨rfl, rfl, rfl, rfl, trivial⟩) (by omega) (by omega)
        rw [htk, List.foldl_append, hc, nV_set, nV_set]
        rfl
      · repeat' first
          | refine k_then ?_
          | refine c_seq ?_
          | refine c_region ?_
          | refine s_nil ?_
          | refine s_move (by exact rfl) (by exact rfl) ?_
          | refine s_assign (by exact rfl) (by exact rfl) ?_
          | refine s_fa (by exact rfl) (by exact rfl) ?_
          | refine s_ld_box (by exact rfl) (by exact rfl) (by exact .tail _ (.head _)) (by exact rfl) ?_
          | refine s_lss (by exact rfl) (by exact rfl) (by exact rfl) ?_
          | refine s_add (by exact rfl) (by exact rfl) (by exact rfl) (by omega) ?_
          | refine s_len (by exact rfl) (by exact rfl) (by assumption) ?_
          | refine c_exit ?_
          | refine k_then_exit ?_
          | refine k_blk ?_
          | refine k_blk_eq ?_
          | (refine c_cond_p (by exact rfl) (fun h => ?_) (fun h => ?_) <;> try (exfalso; omega))
        obtain rfl : k = es.length := by omega
        refine c_round (q + 1) [0, 0] (by rw [List.take_length, rounds, hc0]; rfl) (by exact ⟨rfl, rfl, rfl, trivial⟩) (by omega) (by omega)
    · repeat' first
        | refine k_then ?_
        | refine c_seq ?_
        | refine c_region ?_
        | refine s_nil ?_
        | refine s_move (by exact rfl) (by exact rfl) ?_
        | refine s_assign (by exact rfl) (by exact rfl) ?_
        | refine s_fa (by exact rfl) (by exact rfl) ?_
        | refine s_ld_box (by exact rfl) (by exact rfl) (by exact .tail _ (.head _)) (by exact rfl) ?_
        | refine s_lss (by exact rfl) (by exact rfl) (by exact rfl) ?_
        | refine c_exit ?_
        | refine c_ret ?_
        | refine k_then_exit ?_
        | refine k_blk_eq ?_
        | (refine c_cond_p (by exact rfl) (fun h => ?_) (fun h => ?_) <;> try (exfalso; omega))
      obtain rfl : q = i := by omega
      refine ret1 [0] rfl rfl rfl rfl
end Go.Proofs.Ytpajjnkmaebhcaa
end
section
namespace Go.Proofs.Ytpajjnkmaebhcaa
open Go.RowKit Go.Sl Fil
set_option maxRecDepth 100000
set_option maxHeartbeats 8000000
set_option linter.unusedVariables false
set_option linter.unusedSimpArgs false
attribute [local irreducible] Code.wp wpList bodyPost wpQuiet Exit.then Exit.inBlock Post wpAnyH wpOp
theorem refComps_ok (n : Int) (v : Value) (es : List E) (o lab : Nat → Nat) (w : World) (hs : Shp v es.length) (hr : RO w No v (esV es)) (hR : RightG n es) (hLev : Lev n.toNat (nb (tn es)) o lab) :
    Calls Try.prog 30 #[.agg #[.int .i64 n, v]] w (Post w No fun r L' => ∃ hr : List Value, hr.length = (compsS n.toNat lab).length ∧ L' = [rowHP r 36 1 (compsS n.toNat lab).length hr, starHP (kids rowN hr (compsS n.toNat lab))]) := by
  have hlo := hR.lo
  have hhi := hR.hi
  refine enter0 (vs := [_]) Try.func30 rfl Try.ntmps30 rfl ?_
  repeat' first
    | refine k_then ?_
    | refine c_seq ?_
    | refine c_region ?_
    | refine s_nil ?_
    | refine s_assign (by exact rfl) (by exact rfl) ?_
    | refine s_ldk_box (by exact rfl) (by exact rfl) (by exact .head _) (by exact rfl) (by exact rfl) ?_
    | refine o_box (by exact rfl) (by exact rfl) (fun b => ?_)
  refine o_call (by exact rfl) (by exact rfl) (fun w h => Labels_ok n v es w hs (ro_old h hr) hR) ?_
  rintro vl _ rfl
  refine know_row (v := vl) (.head _) fun hvl _ => ?_
  rw [ref_labels hR.good hLev]
  repeat' first
    | refine k_then ?_
    | refine c_seq ?_
    | refine c_region ?_
    | refine s_nil ?_
    | refine s_assign (by exact rfl) (by exact rfl) ?_
    | refine c_block ?_
  have hle := hLev.le
  generalize hN : n.toNat = N at *
  have hnN : n = (N : Int) := by omega
  subst hnN
  refine c_nil 36 1 ?_
  refine c_star0 ?_
  refine c_loop (fun x : Nat × Value × List Value => x.1 ≤ N ∧ x.2.2.length = (compsI N x.1 lab).length) (fun x => [(1, .pointer (some ⟨b, 0, none⟩)), (3, vl), (4, x.2.1), (5, .int .i64 (x.1 : Int))])
    (fun x => [rowHP x.2.1 36 1 (compsI N x.1 lab).length x.2.2, starHP (kids rowN x.2.2 (compsI N x.1 lab)), rowHP vl 3 1 N (nV ((List.range N).map lab)), boxHP b 24 [.int .i64 (N : Int), v]]) (fun x => N - x.1) (0, .slice none 0 0, []) [1, 0, 0, 0] ⟨Nat.zero_le _, rfl⟩ (by exact rfl) ⟨rfl, rfl, rfl, rfl, trivial⟩ ?_
  rintro ⟨i, vo, ho⟩ ⟨hi, hho⟩
  dsimp only at hi hho ⊢
  by_cases hil : i < N
  · have hli := nV_get (l := (List.range N).map lab) (k := i) (by simpa using hil)
    rw [show ((List.range N).map lab).getD i 0 = lab i from by simp [hil]] at hli
    by_cases hlab : lab i = i
    · have hadd := compsI_add (N := N) hlab
      have hcl := compsI_length N i lab
      generalize hcs : compsI N i lab = cs at *
      repeat' first
        | refine k_then ?_
        | refine c_seq ?_
        | refine c_region ?_
        | refine s_nil ?_
        | refine s_move (by exact rfl) (by exact rfl) ?_
        | refine s_assign (by exact rfl) (by exact rfl) ?_
        | refine s_fa (by exact rfl) (by exact rfl) ?_
        | refine s_ld_box (by exact rfl) (by exact rfl) (by exact .tail _ (.tail _ (.tail _ (.head _)))) (by exact rfl) ?_
        | refine s_lss (by exact rfl) (by exact rfl) (by exact rfl) ?_
        | refine s_neq (by exact rfl) (by exact rfl) (by exact rfl) ?_
        | refine s_idx (by exact rfl) (by exact rfl) (by exact rfl) (by assumption) (by first | assumption | omega) ?_
        | refine s_ld_row (by exact rfl) (by exact rfl) (by exact .tail _ (.tail _ (.head _))) (by assumption) ?_
        | refine c_block ?_
        | refine c_skip ?_
        | (refine c_cond_p (by exact rfl) (fun h => ?_) (fun h => ?_) <;> try (exfalso; omega))
      refine c_nil 3 1 ?_
      refine c_loop (fun x : Nat × Value => i ≤ x.1 ∧ x.1 ≤ N) (fun x => [(1, .pointer (some ⟨b, 0, none⟩)), (3, vl), (4, vo), (5, .int .i64 (i : Int)), (6, x.2), (7, .int .i64 (x.1 : Int))])
        (fun x => [rowHP x.2 3 1 ((List.range x.1).filter fun u => lab u == i).length (nV ((List.range x.1).filter fun u => lab u == i)), rowHP vo 36 1 cs.length ho, starHP (kids rowN ho cs), rowHP vl 3 1 N (nV ((List.range N).map lab)), boxHP b 24 [.int .i64 (N : Int), v]]) (fun x => N - x.1) (i, .slice none 0 0) [0, 0, 0, 0, 0] ⟨Nat.le_refl _, hi⟩ (by dsimp only; rw [row_low fun u hu => hle u (by omega)]; rfl) ⟨rfl, rfl, rfl, rfl, rfl, rfl, trivial⟩ ?_
      rintro ⟨u, vc⟩ ⟨hiu, hu⟩
      dsimp only at hiu hu ⊢
      by_cases hul : u < N
      · have hlu := nV_get (l := (List.range N).map lab) (k := u) (by simpa using hul)
        rw [show ((List.range N).map lab).getD u 0 = lab u from by simp [hul]] at hlu
        have hrl := row_length u i lab
        by_cases hlabu : lab u = i
        · have hra := row_add (u := u) hlabu
          generalize hrow : (List.range u).filter (fun u => lab u == i) = row at *
          repeat' first
            | refine k_then ?_
            | refine c_seq ?_
            | refine c_region ?_
            | refine s_nil ?_
            | refine s_move (by exact rfl) (by exact rfl) ?_
            | refine s_fa (by exact rfl) (by exact rfl) ?_
            | refine s_ld_box (by exact rfl) (by exact rfl) (by exact .tail _ (.tail _ (.tail _ (.tail _ (.head _))))) (by exact rfl) ?_
            | refine s_lss (by exact rfl) (by exact rfl) (by exact rfl) ?_
            | refine s_eql (by exact rfl) (by exact rfl) (by exact rfl) ?_
            | refine s_idx (by exact rfl) (by exact rfl) (by exact rfl) (by assumption) (by first | assumption | omega) ?_
            | refine s_ld_row (by exact rfl) (by exact rfl) (by exact .tail _ (.tail _ (.tail _ (.head _)))) (by assumption) ?_
            | refine c_block ?_
            | refine c_skip ?_
            | (refine c_cond_p (by exact rfl) (fun h => ?_) (fun h => ?_) <;> try (exfalso; omega))
          refine o_mk [.int .i64 (u : Int)] (by exact rfl) (by exact rfl) rfl ?_ ?_ (by simp) fun vt hvt => ?_
          · simp [Value.cells]
          · simp
          skip
          refine o_append_row (i := 1) (by exact rfl) (by exact rfl) (by exact rfl) (by exact rfl) (by exact .head _) (by exact rfl) (by simp [Value.cells, Value.oneCell']) ?_ fun vd hvd => ?_
          · omega
          repeat' first
            | refine k_then ?_
            | refine c_region ?_
            | refine s_nil ?_
            | refine s_move (by exact rfl) (by exact rfl) ?_
            | refine s_assign (by exact rfl) (by exact rfl) ?_
            | refine s_add (by exact rfl) (by exact rfl) (by exact rfl) (by omega) ?_
            | refine k_blk ?_
          refine c_round (u + 1, vd) [1, 1, 1, 1, 1] ?_ (by exact ⟨rfl, rfl, rfl, rfl, rfl, rfl, trivial⟩) (by dsimp only; omega) (by dsimp only; omega)
          dsimp only
          rw [hra]
          have e1 : rowHP vd 3 1 (row.length + 1) (nV row ++ [Value.int .i64 (u : Int)]) = rowHP vd 3 1 (row ++ [u]).length (nV (row ++ [u])) := by simp [nV]
          rw [← e1]
          rfl
        · have hrn := row_next (u := u) hlabu
          repeat' first
            | refine k_then ?_
            | refine c_seq ?_
            | refine c_region ?_
            | refine s_nil ?_
            | refine s_move (by exact rfl) (by exact rfl) ?_
            | refine s_assign (by exact rfl) (by exact rfl) ?_
            | refine s_fa (by exact rfl) (by exact rfl) ?_
            | refine s_ld_box (by exact rfl) (by exact rfl) (by exact .tail _ (.tail _ (.tail _ (.tail _ (.head _))))) (by exact rfl) ?_
            | refine s_lss (by exact rfl) (by exact rfl) (by exact rfl) ?_
            | refine s_eql (by exact rfl) (by exact rfl) (by exact rfl) ?_
            | refine s_add (by exact rfl) (by exact rfl) (by exact rfl) (by omega) ?_
            | refine s_idx (by exact rfl) (by exact rfl) (by exact rfl) (by assumption) (by first | assumption | omega) ?_
            | refine s_ld_row (by exact rfl) (by exact rfl) (by exact .tail _ (.tail _ (.tail _ (.head _)))) (by assumption) ?_
            | refine c_block ?_
            | refine c_skip ?_
            | refine k_blk ?_
            | (refine c_cond_p (by exact rfl) (fun h => ?_) (fun h => ?_) <;> try (exfalso; omega))
          refine c_round (u + 1, vc) [0, 0, 0, 0, 0] (by dsimp only; rw [hrn]; rfl) (by exact ⟨rfl, rfl, rfl, rfl, rfl, rfl, trivial⟩) (by dsimp only; omega) (by dsimp only; omega)
      · repeat' first
          | refine k_then ?_
          | refine c_seq ?_
          | refine c_region ?_
          | refine s_nil ?_
          | refine s_move (by exact rfl) (by exact rfl) ?_
          | refine s_fa (by exact rfl) (by exact rfl) ?_
          | refine s_ld_box (by exact rfl) (by exact rfl) (by exact .tail _ (.tail _ (.tail _ (.tail _ (.head _))))) (by exact rfl) ?_
          | refine s_lss (by exact rfl) (by exact rfl) (by exact rfl) ?_
          | refine c_exit ?_
          | refine k_then_exit ?_
          | refine k_blk_eq ?_
          | (refine c_cond_p (by exact rfl) (fun h => ?_) (fun h => ?_) <;> try (exfalso; omega))
        obtain rfl : u = N := by omega
        refine know_row (v := vc) (.head _) fun hvc _ => ?_
        refine o_mk [vc] (by exact rfl) (by exact rfl) rfl ?_ ?_ (by simp) fun vt hvt => ?_
        · intro u hu
          obtain rfl : u = vc := by simpa using hu
          rw [← Array.length_toList, one_cells hvc.one]; rfl
        · simp
        rw [show ([vc].flatMap fun u => u.cells.toList) = [vc] from by simp [one_cells hvc.one]]
        skip
        refine o_append_row (i := 2) (by exact rfl) (by exact rfl) (by exact rfl) (by exact rfl) (by exact .head _) (by exact rfl) (by simp [hvc.one]) ?_ fun vo2 hvo2 => ?_
        · omega
        repeat' first
          | refine k_then ?_
          | refine c_region ?_
          | refine s_nil ?_
          | refine s_move (by exact rfl) (by exact rfl) ?_
          | refine s_assign (by exact rfl) (by exact rfl) ?_
          | refine s_add (by exact rfl) (by exact rfl) (by exact rfl) (by omega) ?_
          | refine k_blk ?_
        have e1 : rowHP vc 3 1 ((List.range u).filter fun x => lab x == i).length (nV ((List.range u).filter fun x => lab x == i)) = rowN vc ((List.range u).filter fun x => lab x == i) := rfl
        refine c_pick [1, 1, 1, 1, 1] (by exact rfl) ?_
        rw [e1]
        refine c_pushk 1 (by exact rfl) ?_
        refine c_round (i + 1, vo2, ho ++ [vc]) [0, 0, 0, 0] ?_ (by exact ⟨rfl, rfl, rfl, rfl, trivial⟩) ⟨by dsimp only; omega, by dsimp only; rw [hadd, List.length_append, List.length_append, hho]; rfl⟩ (by dsimp only; omega)
        dsimp only
        rw [hadd, kids_append hho, List.length_append]
        rfl
    · have hnx := compsI_next (N := N) hlab
      repeat' first
        | refine k_then ?_
        | refine c_seq ?_
        | refine c_region ?_
        | refine s_nil ?_
        | refine s_move (by exact rfl) (by exact rfl) ?_
        | refine s_assign (by exact rfl) (by exact rfl) ?_
        | refine s_fa (by exact rfl) (by exact rfl) ?_
        | refine s_ld_box (by exact rfl) (by exact rfl) (by exact .tail _ (.tail _ (.tail _ (.head _)))) (by exact rfl) ?_
        | refine s_lss (by exact rfl) (by exact rfl) (by exact rfl) ?_
        | refine s_neq (by exact rfl) (by exact rfl) (by exact rfl) ?_
        | refine s_add (by exact rfl) (by exact rfl) (by exact rfl) (by omega) ?_
        | refine s_idx (by exact rfl) (by exact rfl) (by exact rfl) (by assumption) (by first | assumption | omega) ?_
        | refine s_ld_row (by exact rfl) (by exact rfl) (by exact .tail _ (.tail _ (.head _))) (by assumption) ?_
        | refine c_block ?_
        | refine c_skip ?_
        | refine c_exit ?_
        | refine k_then_exit ?_
        | refine k_blk_eq ?_
        | (refine c_cond_p (by exact rfl) (fun h => ?_) (fun h => ?_) <;> try (exfalso; omega))
      refine c_round (i + 1, vo, ho) [0, 0, 0, 0] (by dsimp only; rw [hnx]; rfl) (by exact ⟨rfl, rfl, rfl, rfl, trivial⟩) ⟨by omega, by dsimp only; rw [hnx]; exact hho⟩ (by dsimp only; omega)
  · repeat' first
      | refine k_then ?_
      | refine c_seq ?_
      | refine c_region ?_
      | refine s_nil ?_
      | refine s_move (by exact rfl) (by exact rfl) ?_
      | refine s_assign (by exact rfl) (by exact rfl) ?_
      | refine s_fa (by exact rfl) (by exact rfl) ?_
      | refine s_ld_box (by exact rfl) (by exact rfl) (by exact .tail _ (.tail _ (.tail _ (.head _)))) (by exact rfl) ?_
      | refine s_lss (by exact rfl) (by exact rfl) (by exact rfl) ?_
      | refine c_exit ?_
      | refine c_ret ?_
      | refine k_then_exit ?_
      | refine k_blk_eq ?_
      | (refine c_cond_p (by exact rfl) (fun h => ?_) (fun h => ?_) <;> try (exfalso; omega))
    obtain rfl : i = N := by omega
    refine ret1 [0, 0] rfl rfl rfl ⟨ho, hho, rfl⟩
end Go.Proofs.Ytpajjnkmaebhcaa
end
section
set_option linter.unusedVariables false
namespace Go.Sl
open Go Go.RowKit
section
variable {P : Program} {w0 : World} {S0 : FS} {n : Nat} {F : List (Nat × Value)} {L : List HP} {Q : Exit → Act → World → Prop}
/-- what is left over, by a number above 0, of any number -/
theorem q_remz {o : Oper} {x y : Operand} {t t' : TypeId} {a b : Int} (ho : o.op = .binOp .rem t x y t') (hx : ev F x = some (.int .i64 a)) (hy : ev F y = some (.int .i64 b)) (h : 0 < b ∧ b ≤ 9223372036854775807) : R1 P w0 S0 n F L o (.int .i64 (a.tmod b)) :=
  q_of_pure fun s hf w => by
    have hj : ¬ b = 0 := by omega
    simp [execOp, ho, hf.eval hx, hf.eval hy, eqGuard, binOp, Op.intDiv, hj]
theorem s_remz {x y : Operand} {t t' ty : TypeId} {d : Nat} {ps : String} {af : Array Edge} {rest : List Oper} {ops : Array Oper} {a b : Int} (hn : Nat.blt d n = true) (hx : ev F x = some (.int .i64 a)) (hy : ev F y = some (.int .i64 b)) (hb : 0 < b ∧ b ≤ 9223372036854775807) (h : Reach w0 S0 n ((d, .int .i64 (a.tmod b)) :: F) L (wpList P ops Q rest)) : Reach w0 S0 n F L (wpList P ops Q (⟨some d, .binOp .rem t x y t', ty, ps, af, none⟩ :: rest)) := s_q rfl rfl hn (q_remz rfl hx hy hb).q h
end
end Go.Sl
end
section
set_option linter.unusedVariables false
namespace Go.Sl
open Go Go.RowKit Fil
/-- a mirror's rows, of numbers -/
theorem rowI_nat {ho : List Value} {R : List (List Nat)} : kids rowI ho ((intL R).map List.reverse) = kids rowN ho (R.map List.reverse) := by
  unfold kids
  apply List.ext_getElem?
  intro i
  rw [List.getElem?_zipWith, List.getElem?_zipWith, intL, List.map_map, List.getElem?_map, List.getElem?_map]
  cases ho[i]? with
  | none => rfl
  | some h =>
    cases R[i]? with
    | none => rfl
    | some l =>
      simp only [Option.map_some, Function.comp_apply, rowI, rowN, List.length_reverse, List.length_map, ← List.map_reverse, nV_iV]
end Go.Sl
namespace Fil
theorem plane_mirror {n : Int} {es : List E} {R : List (List Nat)} {o lab : Nat → Nat} (hR : RightG n es) (h : RotL n.toNat (tn es) R) (hL : Lev n.toNat (nb (tn es)) o lab) : eulerL n.toNat (tn es) lab (facesR n.toNat (tn es) R) = eulerL n.toNat (tn es) lab (facesR n.toNat (tn es) (R.map List.reverse)) := by
  rw [eulerL, eulerL]
  apply List.map_congr_left
  intro c hc
  exact euler_mirror hR h h.rev (rf_mirror R) hL (facesR_dec hR h) (facesR_dec hR h.rev) hc
theorem rem_two {x : Int} {g : Nat} (h : x + 2 * g = 2) : x.tmod 2 = 0 := by
  have e : x = 2 * (1 - (g : Int)) := by omega
  rw [e, Int.mul_tmod_right]
end Fil
namespace Go.Proofs.Ytpajjnkmaebhcaa
open Go Go.RowKit Go.Sl Fil
set_option maxRecDepth 100000
set_option maxHeartbeats 8000000
set_option linter.unusedVariables false
set_option linter.unusedSimpArgs false
attribute [local irreducible] Code.wp wpList bodyPost wpQuiet Exit.then Exit.inBlock Post wpAnyH wpOp
theorem RotationGenus_ok (n : Int) (v : Value) (es : List E) (vr : Value) (hr0 : List Value) (ls : List (List Int)) (w : World) (hs : Shp v es.length) (hr : RO w No v (esV es)) (hR : ROsI w No vr hr0 ls) (hlen : ∀ l ∈ ls, l.length ≤ 17592186044416) :
    Calls Try.prog 8 #[.agg #[.int .i64 n, v], vr] w (Post w No (Just (.bool true))) := by
  refine enter0 (vs := [_, _]) Try.func8 rfl Try.ntmps8 rfl ?_
  repeat' first
    | refine k_then ?_
    | refine c_seq ?_
    | refine c_region ?_
    | refine s_nil ?_
    | refine s_move (by exact rfl) (by exact rfl) ?_
    | refine s_assign (by exact rfl) (by exact rfl) ?_
    | refine s_ldk_box (by exact rfl) (by exact rfl) (by exact .head _) (by exact rfl) (by exact rfl) ?_
    | refine o_box (by exact rfl) (by exact rfl) (fun b => ?_)
    | fail
  refine s_call (by exact rfl) (by exact rfl) (fun w h => Light7_ok n v es.length vr hr0 ls 40 w hs (rosI_old h hR) hlen (by omega)) ?_
  cases hl : light7 n es.length ls 40
  · repeat' first
      | refine k_then ?_
      | refine c_seq ?_
      | refine c_region ?_
      | refine s_nil ?_
      | refine s_move (by exact rfl) (by exact rfl) ?_
      | refine s_not (by exact rfl) (by exact rfl) ?_
      | refine s_pick_t (by exact rfl) (by exact rfl) (by exact rfl) ?_
      | refine c_cond_t (by exact rfl) ?_
      | refine g_skip (by exact rfl) (by exact rfl) (by exact rfl) (by exact rfl) ?_
      | fail
    refine s_call (vs := []) (by exact rfl) (by exact rfl) (fun w h => alive07_ok w) ?_
    repeat' first
      | refine k_then ?_
      | refine s_nil ?_
      | refine s_assign (by exact rfl) (by exact rfl) ?_
      | refine c_ret ?_
      | refine k_then_ret ?_
      | fail
    refine ret1 [] rfl rfl (by exact rfl) ⟨rfl, rfl⟩
  obtain ⟨l1, l2, l3, l4⟩ := light7_t hl
  have hle : ∀ l ∈ ls, l.length ≤ 1048576 := fun l hl => by have := l4 l hl; omega
  repeat' first
    | refine s_move (by exact rfl) (by exact rfl) ?_
    | refine s_not (by exact rfl) (by exact rfl) ?_
    | refine w_move (by exact rfl) (by exact rfl) (by exact rfl) (by exact rfl) ?_
    | refine w_ldk_box (by exact rfl) (by exact rfl) (by exact rfl) (by exact rfl) (by exact .head _) (by exact rfl) (by exact rfl) ?_
    | refine g_on (by exact rfl) (by exact rfl) ?_
    | fail
  refine s_call (by exact rfl) (by exact rfl) (fun w h => refRotRight_ok n v es vr hr0 _ w hs (ro_old h hr) (by omega) (rosI_old h hR)) ?_
  by_cases hk : rotK n es ls = 0
  · obtain ⟨hG, R, rfl, hRot⟩ := rot_sys hk
    have hRs := hR.nat
    obtain ⟨o, lab, hL⟩ := lev_ex w hG
    have hRr := hRot.rev
    have hlo := hG.lo
    have hmi := plane_mirror hG hRot hL
    have hRl := hRot.len
    have hill : (intL R).length = R.length := by simp [intL]
    rw [hk]
    repeat' first
      | refine k_then ?_
      | refine c_seq ?_
      | refine c_region ?_
      | refine s_nil ?_
      | refine s_move (by exact rfl) (by exact rfl) ?_
      | refine s_pick_f (by exact rfl) (by exact rfl) (by exact rfl) ?_
      | refine s_ldk_box (by exact rfl) (by exact rfl) (by exact .head _) (by exact rfl) (by exact rfl) ?_
      | refine c_skip ?_
      | (refine c_cond_p (by exact rfl) (fun h => ?_) (fun h => ?_) <;> try (exfalso; omega))
      | refine w_neq (by exact rfl) (by exact rfl) (by exact rfl) (by exact rfl) (by exact rfl) ?_
      | fail
    refine o_call (by exact rfl) (by exact rfl) (fun w h => rotEulerL_ok n v es vr hr0 R o lab w hs (ro_old h hr) hG (ros_old h hRs) hRot hL) ?_
    rintro _ _ ⟨vo, rfl, rfl⟩
    refine know_row (v := vo) (by exact .head _) fun hvo _ => ?_
    repeat' first
      | refine k_then ?_
      | refine c_seq ?_
      | refine s_nil ?_
      | refine s_move (by exact rfl) (by exact rfl) ?_
      | refine s_assign (by exact rfl) (by exact rfl) ?_
      | refine s_extract (by exact rfl) (by exact rfl) (by exact rfl) ?_
      | fail
    refine p_begin0 [(0, true), (1, true), (2, false), (3, false), (4, true), (5, true), (6, true), (7, true), (8, true)] (by kernel_rfl) ?_
    repeat' first
      | (refine p_at (by exact rfl) ?_
         first
          | refine t_move (by exact rfl) (by exact rfl) (by exact fun _ h => h) ?_
          | refine t_ldk_box (by exact rfl) (by exact rfl) (by exact .tail _ (.head _)) (by exact rfl) (by exact rfl) (by exact fun _ h => h) ?_
          | fail)
      | fail
    refine p_call' (vs := [vr]) (by exact rfl) (by exact rfl) (by exact rfl) (fun w h => rotMirror_ok vr hr0 (intL R) w (rosI_old h hR) (by omega) hle) ?_
    rintro vm _ ⟨hm, hml, rfl⟩
    refine ⟨fun _ h => h.tl.tl, ?_⟩
    rw [rowI_nat]
    have hrl2 : (intL R).length = (R.map List.reverse).length := by simp [intL]
    refine p_call' (vs := [.agg #[.int .i64 n, v], vm]) (by exact rfl) (by exact rfl) (by exact rfl) (fun w h => rotEulerL_ok n v es vm hm (R.map List.reverse) o lab w hs (ro_old h hr) hG (ros_own h (.head _) hrl2 (.tail _ (.head _))) hRr hL) ?_
    rintro _ _ ⟨vp, rfl, rfl⟩
    refine ⟨fun _ h => h.tl.tl.tl, ?_⟩
    refine know_rowP (v := vp) (.head _) fun hvp _ => ?_
    rw [← hmi] at hvp ⊢
    have hel : (eulerL n.toNat (tn es) lab (facesR n.toNat (tn es) R)).length = (compsS n.toNat lab).length := by rw [eulerL, List.length_map]
    have hall : ∀ x ∈ eulerL n.toNat (tn es) lab (facesR n.toNat (tn es) R), x ≤ 2 ∧ x.tmod 2 = 0 := fun x hx => by
      obtain ⟨c, hc, rfl⟩ := List.mem_map.1 hx
      obtain ⟨g, hg⟩ := euler_two hG hRot hL (facesR_dec hG hRot) hc
      exact ⟨by omega, rem_two hg⟩
    have hpm : planeR n.toNat (tn es) lab (R.map List.reverse) = planeR n.toNat (tn es) lab R := by rw [planeR, planeR, hmi]
    generalize hge : eulerL n.toNat (tn es) lab (facesR n.toNat (tn es) R) = l at *
    repeat' first
      | refine p_nil ?_
      | (refine p_at (by exact rfl) ?_
         first
          | refine t_move (by exact rfl) (by exact rfl) (by exact fun _ h => h.tl.tl.tl) ?_
          | refine t_assign (by exact rfl) (by exact rfl) (by exact fun _ h => h.tl.tl.tl) ?_
          | refine t_extract (by exact rfl) (by exact rfl) (by exact rfl) (by exact fun _ h => h.tl.tl.tl) ?_
          | fail)
      | fail
    repeat' first
      | refine k_then ?_
      | refine c_seq ?_
      | refine c_region ?_
      | refine s_move (by exact rfl) (by exact rfl) ?_
      | refine s_neq (by exact rfl) (by exact rfl) (by exact rfl) ?_
      | refine s_pick_f (by exact rfl) (by exact rfl) (by exact rfl) ?_
      | (refine g_case (by exact rfl) (by exact rfl) (fun h => ?_) (fun h => ?_) <;> try (exfalso; omega))
      | refine w_move (by exact rfl) (by exact rfl) (by exact rfl) (by exact rfl) ?_
      | refine w_neq (by exact rfl) (by exact rfl) (by exact rfl) (by exact rfl) (by exact rfl) ?_
      | refine g_on (by exact rfl) (by exact rfl) ?_
      | fail
    refine s_call (by exact rfl) (by exact rfl) (fun w h => Ints_ok vo vp l l w hvo hvp (ro_own h (.tail _ (.tail _ (.tail _ (.head _))))) (ro_own h (.head _))) ?_
    rw [show decide (l = l) = true from decide_eq_true rfl]
    repeat' first
      | refine s_move (by exact rfl) (by exact rfl) ?_
      | refine s_pick_f (by exact rfl) (by exact rfl) (by exact rfl) ?_
      | refine w_move (by exact rfl) (by exact rfl) (by exact rfl) (by exact rfl) ?_
      | refine w_not (by exact rfl) (by exact rfl) (by exact rfl) (by exact rfl) ?_
      | refine w_len (by exact rfl) (by exact rfl) (by exact rfl) (by exact rfl) (by assumption) ?_
      | refine w_ldk_box (by exact rfl) (by exact rfl) (by exact rfl) (by exact rfl) (by exact .tail _ (.tail _ (.tail _ (.tail _ (.head _))))) (by exact rfl) (by exact rfl) ?_
      | refine g_on (by exact rfl) (by exact rfl) ?_
      | fail
    refine o_call (by exact rfl) (by exact rfl) (fun w h => refComps_ok n v es o lab w hs (ro_old h hr) hG hL) ?_
    rintro vc _ ⟨hc, hcl, rfl⟩
    refine know_row (v := vc) (.head _) fun hvc _ => ?_
    repeat' first
      | refine k_then ?_
      | refine c_seq ?_
      | refine c_region ?_
      | refine s_nil ?_
      | refine s_assign (by exact rfl) (by exact rfl) ?_
      | refine s_pick_f (by exact rfl) (by exact rfl) (by exact rfl) ?_
      | refine c_block ?_
      | refine c_skip ?_
      | (refine c_cond_p (by exact rfl) (fun h => ?_) (fun h => ?_) <;> try (exfalso; omega))
      | refine w_neq (by exact rfl) (by exact rfl) (by exact rfl) (by exact rfl) (by exact rfl) ?_
      | refine w_len (by exact rfl) (by exact rfl) (by exact rfl) (by exact rfl) (by assumption) ?_
      | fail
    have hlN : l.length ≤ n.toNat := by rw [hel]; exact compsI_length _ _ lab
    refine c_loop (fun k : Nat => k ≤ l.length) (fun k => [(1, vr), (2, .pointer (some ⟨b, 0, none⟩)), (5, vo), (9, .int .i64 (k : Int))]) (fun _ => [rowHP vo 3 1 l.length (iV l), boxHP b 24 [.int .i64 n, v]]) (fun k => l.length - k) 0 [5, 5] (Nat.zero_le _) (by exact rfl) ⟨rfl, rfl, rfl, rfl, trivial⟩ ?_
    rintro k hkk
    by_cases hlt : k < l.length
    · obtain ⟨e, he⟩ : ∃ e, l[k]? = some e := ⟨_, List.getElem?_eq_getElem hlt⟩
      have hE : (iV l)[k * 1]? = some (.int .i64 e) := by rw [Nat.mul_one, iV, List.getElem?_map, he]; rfl
      obtain ⟨h2, h3⟩ := hall e (List.mem_of_getElem? he)
      repeat' first
        | refine k_then ?_
        | refine c_seq ?_
        | refine c_region ?_
        | refine s_nil ?_
        | refine s_move (by exact rfl) (by exact rfl) ?_
        | refine s_lss (by exact rfl) (by exact rfl) (by exact rfl) ?_
        | refine s_gtr (by exact rfl) (by exact rfl) (by exact rfl) ?_
        | refine s_len (by exact rfl) (by exact rfl) (by assumption) ?_
        | refine s_idx (by exact rfl) (by exact rfl) (by exact rfl) (by assumption) (by first | assumption | omega) ?_
        | refine s_ld_row (by exact rfl) (by exact rfl) (by exact .head _) (by assumption) ?_
        | refine c_block ?_
        | refine c_skip ?_
        | (refine c_cond_p (by exact rfl) (fun h => ?_) (fun h => ?_) <;> try (exfalso; omega))
        | (refine g_case (by exact rfl) (by exact rfl) (fun h => ?_) (fun h => ?_) <;> try (exfalso; omega))
        | refine w_move (by exact rfl) (by exact rfl) (by exact rfl) (by exact rfl) ?_
        | refine w_idx (by exact rfl) (by exact rfl) (by exact rfl) (by exact rfl) (by exact rfl) (by assumption) (by first | assumption | omega) ?_
        | refine w_ld_row (by exact rfl) (by exact rfl) (by exact rfl) (by exact rfl) (by exact .head _) (by assumption) ?_
        | refine g_on (by exact rfl) (by exact rfl) ?_
        | fail
      refine s_remz (by exact rfl) (by exact rfl) (by exact rfl) (by omega) ?_
      rw [h3]
      repeat' first
        | refine k_then ?_
        | refine c_region ?_
        | refine s_nil ?_
        | refine s_move (by exact rfl) (by exact rfl) ?_
        | refine s_assign (by exact rfl) (by exact rfl) ?_
        | refine s_add (by exact rfl) (by exact rfl) (by exact rfl) (by omega) ?_
        | refine s_pick_f (by exact rfl) (by exact rfl) (by exact rfl) ?_
        | refine c_skip ?_
        | refine k_blk ?_
        | (refine c_cond_p (by exact rfl) (fun h => ?_) (fun h => ?_) <;> try (exfalso; omega))
        | refine w_neq (by exact rfl) (by exact rfl) (by exact rfl) (by exact rfl) (by exact rfl) ?_
        | fail
      refine c_round (k + 1) [0, 0] (by exact rfl) ⟨rfl, rfl, rfl, rfl, trivial⟩ (by omega) (by omega)
    · repeat' first
        | refine k_then ?_
        | refine c_seq ?_
        | refine c_region ?_
        | refine s_nil ?_
        | refine s_move (by exact rfl) (by exact rfl) ?_
        | refine s_lss (by exact rfl) (by exact rfl) (by exact rfl) ?_
        | refine s_len (by exact rfl) (by exact rfl) (by assumption) ?_
        | refine c_exit ?_
        | refine k_then_exit ?_
        | refine k_blk_eq ?_
        | (refine c_cond_p (by exact rfl) (fun h => ?_) (fun h => ?_) <;> try (exfalso; omega))
        | fail
      refine p_begin0 [(0, true), (1, true), (3, true), (4, true), (2, false), (5, false), (6, false), (7, true), (8, true), (9, false), (10, true), (11, true)] (by kernel_rfl) ?_
      repeat' first
        | (refine p_at (by exact rfl) ?_
           first
            | refine t_move (by exact rfl) (by exact rfl) (by exact fun _ h => h) ?_
            | refine t_ldk_box (by exact rfl) (by exact rfl) (by exact .tail _ (.head _)) (by exact rfl) (by exact rfl) (by exact fun _ h => h) ?_
            | fail)
        | fail
      refine p_call (gd := none) (by exact rfl) rfl (by exact rfl) (fun w h => rotPlane_ok n v es vr hr0 R o lab w hs (ro_old h hr) hG (ros_old h hRs) hRot hL) (by exact fun _ h => h) ?_
      refine p_call' (vs := [vr]) (by exact rfl) (by exact rfl) (by exact rfl) (fun w h => rotMirror_ok vr hr0 (intL R) w (rosI_old h hR) (by omega) hle) ?_
      rintro vm2 _ ⟨hm2, hml2, rfl⟩
      refine ⟨fun _ h => h.tl.tl, ?_⟩
      rw [rowI_nat]
      refine p_call (gd := none) (by exact rfl) rfl (by exact rfl) (fun w h => rotPlane_ok n v es vm2 hm2 (R.map List.reverse) o lab w hs (ro_old h hr) hG (ros_own h (.head _) hrl2 (.tail _ (.head _))) hRr hL) (by exact fun _ h => h.tl.tl) ?_
      rw [hpm]
      generalize planeR n.toNat (tn es) lab R = K at *
      repeat' first
        | (refine p_at (by exact rfl) ?_
           first
            | refine t_move (by exact rfl) (by exact rfl) (by exact fun _ h => h.tl.tl) ?_
            | refine t_eql (by exact rfl) (by exact rfl) (by exact rfl) (by exact fun _ h => h.tl.tl) ?_
            | (refine t_case (by exact rfl) (by exact rfl) (fun h => ?_) (fun h => ?_) <;> try (exfalso; omega))
            | fail)
        | fail
      refine p_callw (vs := []) (by exact rfl) (by exact rfl) (by exact rfl) rfl (by exact rfl) (fun w h => alive07_ok w) (by exact fun _ h => h.tl.tl) ?_
      repeat' first
        | refine p_nil ?_
        | (refine p_at (by exact rfl) ?_
           first
            | refine t_assign (by exact rfl) (by exact rfl) (by exact fun _ h => h.tl.tl) ?_
            | refine t_pick_t (by exact rfl) (by exact rfl) (by exact rfl) (by exact fun _ h => h.tl.tl) ?_
            | fail)
        | fail
      repeat' first
        | refine k_then ?_
        | refine c_ret ?_
        | fail
      refine ret1 [] rfl rfl (by exact rfl) ⟨rfl, rfl⟩
  · repeat' first
      | refine k_then ?_
      | refine c_seq ?_
      | refine c_region ?_
      | refine s_nil ?_
      | refine s_pick_f (by exact rfl) (by exact rfl) (by exact rfl) ?_
      | (refine c_cond_p (by exact rfl) (fun h => ?_) (fun h => ?_) <;> try (exfalso; omega))
      | refine w_neq (by exact rfl) (by exact rfl) (by exact rfl) (by exact rfl) (by exact rfl) ?_
      | fail
    refine s_call (vs := []) (by exact rfl) (by exact rfl) (fun w h => alive07_ok w) ?_
    repeat' first
      | refine k_then ?_
      | refine s_nil ?_
      | refine s_assign (by exact rfl) (by exact rfl) ?_
      | refine c_ret ?_
      | refine k_then_ret ?_
      | fail
    refine ret1 [] rfl rfl (by exact rfl) ⟨rfl, rfl⟩
end Go.Proofs.Ytpajjnkmaebhcaa
end
section
namespace Go.Proofs.Ytpajjnkmaebhcaa
open Go.ChangeShapes Go.WideShapes Go.ChangeAt Go.RowKit Go.Joins Go.Deep Go.Sl Fil
set_option maxRecDepth 100000
set_option linter.unusedVariables false
set_option linter.unusedSimpArgs false
theorem row_own : ownKnob Try.prog.godebug = none := by kernel_rfl
theorem row_laid : laidOutB Try.prog = true := by kernel_rfl
theorem cells_graph : Try.prog.cellsOf 24 = 2 := by kernel_rfl
theorem cells_edge : Try.prog.cellsOf 60 = 3 := by kernel_rfl
theorem cells_int : Try.prog.cellsOf 3 = 1 := by kernel_rfl
section
variable {H : Type} {enc : TypeId × Value → H}
theorem slice_spot {P : Program} {w : World} {r : Reach} {base : Nat} {t e : TypeId} {a : Addr} {len cap : Nat} (hu : P.underlying t = some (.slice e)) (h : Cell.okWide P w r base t (.slice (some a) len cap)) : a.spot = none := by
  simp only [Cell.okWide, hu, Cell.ok, World.has] at h
  exact h.2.2.2.1
theorem es_list {n : Nat} {f : Nat → Nat → Value} (h : ∀ i, i < n → ∃ a b c, f i 0 = .int .i64 a ∧ f i 1 = .int .i64 b ∧ f i 2 = .int .i64 c) : ∃ es : List E, es.length = n ∧ ∀ (i : Nat) j u, i < n → j < 3 → (esV es)[i * 3 + j]? = some u → u = f i j := by
  induction n with
  | zero => exact ⟨[], rfl, fun i j u hi => by omega⟩
  | succ n ih =>
    obtain ⟨es, h1, h2⟩ := ih fun i hi => h i (by omega)
    obtain ⟨a, b, c, ha, hb, hc⟩ := h n (by omega)
    refine ⟨es ++ [(a, b, c)], by simp [h1], fun i j u hi hj hu => ?_⟩
    rw [esV_snoc] at hu
    have hl := esV_length es
    by_cases hin : i < n
    · rw [List.getElem?_append_left (by omega)] at hu
      exact h2 i j u hin hj hu
    · obtain rfl : i = n := by omega
      rw [List.getElem?_append_right (by omega), show i * 3 + j - (esV es).length = j from by omega] at hu
      match j, hj with
      | 0, _ => simp [eV] at hu; rw [← hu, ha]
      | 1, _ => simp [eV] at hu; rw [← hu, hb]
      | 2, _ => simp [eV] at hu; rw [← hu, hc]
theorem open_edges {W : World} {base fuel : Nat} {v : Value} {y : DataW H × List MemPlace} (hv : Cell.okWide Try.prog W .any base 22 v) (h : DataW.trod enc Try.prog W 0 (fun _ => true) true fuel 22 [v] = some y) :
    ∃ es : List E, Shp v es.length ∧ RO W No v (esV es) := by
  rcases open_slice Try.underlying22 h with ⟨hcs, _⟩ | ⟨a, len, cap, m, n, D, Pl, hcs, _, hl, hm, hmm, _, hx⟩
  · simp only [List.cons.injEq, and_true] at hcs
    subst hcs
    exact ⟨[], ⟨by simp [maxLen], .inl ⟨rfl, rfl⟩⟩, RO.of_rd fun j u hj => by simp [esV] at hj⟩
  · simp only [List.cons.injEq, and_true] at hcs
    subst hcs
    have hsp := slice_spot Try.underlying22 hv
    obtain ⟨g, off, sp⟩ := a
    dsimp only at hsp
    subst hsp
    simp only [if_true] at hmm
    subst hmm
    have key : ∀ i, i < len → ∃ a b c, W.cell? ⟨g, off + (i * 3 + 0), none⟩ = some (.int .i64 a) ∧ W.cell? ⟨g, off + (i * 3 + 1), none⟩ = some (.int .i64 b) ∧ W.cell? ⟨g, off + (i * 3 + 2), none⟩ = some (.int .i64 c) := by
      intro i hi
      obtain ⟨cs, h1, h2⟩ := hx i (by omega)
      rw [cells_edge] at h1
      obtain ⟨_, hlen, hc⟩ := World.cells?_some h1
      obtain ⟨y0, y1, y2, k, _, _, t0, t1, t2⟩ := trod_struct3 Try.underlying60 h2
      obtain ⟨a, e0, -, -⟩ := DataW.trod_int Try.underlying3 t0
      obtain ⟨b, e1, -, -⟩ := DataW.trod_int Try.underlying3 t1
      obtain ⟨c, e2, -, -⟩ := DataW.trod_int Try.underlying2 t2
      match cs, hlen, hc, e0, e1, e2 with
      | [x0, x1, x2], _, hc, e0, e1, e2 =>
        have c0 := hc 0 (by omega)
        have c1 := hc 1 (by omega)
        have c2 := hc 2 (by omega)
        have f0 : x0 = .int .i64 a := by
          have : [x0] = [.int .i64 a] := e0
          simpa using this
        have f1 : x1 = .int .i64 b := by
          have : [x1] = [.int .i64 b] := e1
          simpa using this
        have f2 : x2 = .int .i64 c := by
          have : [x2] = [.int .i64 c] := e2
          simpa using this
        subst f0 f1 f2
        refine ⟨a, b, c, ?_, ?_, ?_⟩
        · rw [Deep.add_add] at c0
          rw [show (⟨g, off + (i * 3 + 0), none⟩ : Addr) = (⟨g, off, none⟩ : Addr).add (i * 3 + 0) from by simp [Addr.add]]
          exact c0
        · rw [Deep.add_add] at c1
          rw [show (⟨g, off + (i * 3 + 1), none⟩ : Addr) = (⟨g, off, none⟩ : Addr).add (i * 3 + 1) from by simp [Addr.add]]
          exact c1
        · rw [Deep.add_add] at c2
          rw [show (⟨g, off + (i * 3 + 2), none⟩ : Addr) = (⟨g, off, none⟩ : Addr).add (i * 3 + 2) from by simp [Addr.add]]
          exact c2
    obtain ⟨es, he1, he2⟩ := es_list (n := len) (f := fun i j => (W.cell? ⟨g, off + (i * 3 + j), none⟩).getD undef) (fun i hi => by
      obtain ⟨a, b, c, h0, h1, h2⟩ := key i hi
      exact ⟨a, b, c, congrArg (fun x => Option.getD x undef) h0, congrArg (fun x => Option.getD x undef) h1, congrArg (fun x => Option.getD x undef) h2⟩)
    subst he1
    refine ⟨es, ⟨by omega, .inr (.inl ⟨g, off, m, rfl, hl, hm⟩)⟩, RO.of_rd fun j u hj => ⟨g, off, es.length, m, rfl, ?_⟩⟩
    have hlt := (List.getElem?_eq_some_iff.1 hj).1
    rw [esV_length] at hlt
    have hd : j / 3 * 3 + j % 3 = j := by omega
    have hu := he2 (j / 3) (j % 3) u (by omega) (by omega) (by rw [hd]; exact hj)
    rw [hd] at hu
    obtain ⟨a, b, c, h0, h1, h2⟩ := key (j / 3) (by omega)
    have hex : ∃ x, W.cell? ⟨g, off + j, none⟩ = some x := by
      have : j % 3 = 0 ∨ j % 3 = 1 ∨ j % 3 = 2 := by omega
      rcases this with h | h | h
      · exact ⟨_, by rw [← hd, h]; exact h0⟩
      · exact ⟨_, by rw [← hd, h]; exact h1⟩
      · exact ⟨_, by rw [← hd, h]; exact h2⟩
    obtain ⟨x, hx⟩ := hex
    rw [hx] at hu ⊢
    rw [hu]
    rfl
theorem open_graph {W : World} {base : Nat} {v : Value} {d : DataW H} {p : List MemPlace} (hv : Value.okWide Try.prog W .any base 24 v) (h : DataW.Trod enc Try.prog W 0 (fun _ => true) true 24 v d p) :
    ∃ (n : Int) (u : Value) (es : List E), v = .agg #[.int .i64 n, u] ∧ Shp u es.length ∧ RO W No u (esV es) := by
  obtain ⟨c0, c1, y0, y1, m, rfl, -, -, hy0, hy1⟩ := open_agg2 Try.underlying24 (by kernel_rfl) cells_graph hv h
  obtain ⟨a, e0, -, -⟩ := DataW.trod_int Try.underlying3 hy0
  simp only [List.cons.injEq, and_true] at e0
  subst e0
  have hc : Cell.okWide Try.prog W .any base 22 c1 := by
    simp only [Value.okWide, Try.underlying24] at hv
    obtain ⟨cs, hcs, _, ts, hts, _, hall⟩ := hv
    obtain rfl : cs = #[.int .i64 a, c1] := by simpa using hcs.symm
    have e : Try.prog.cellTypes Try.prog.depth 24 = some [3, 22] := by kernel_rfl
    rw [e] at hts
    obtain rfl : [3, 22] = ts := by simpa using hts
    obtain ⟨u, hu, hok⟩ := hall 1 c1 rfl
    obtain rfl : 22 = u := by simpa using hu
    exact hok
  obtain ⟨es, h1, h2⟩ := open_edges hc hy1
  exact ⟨a, c1, es, rfl, h1, h2⟩
end
end Go.Proofs.Ytpajjnkmaebhcaa
end
section
namespace Go.Proofs.Ytpajjnkmaebhcaa
open Go.ChangeShapes Go.WideShapes Go.ChangeAt Go.RowKit Go.Joins Go.Deep Go.Sl Fil
set_option maxRecDepth 100000
set_option linter.unusedVariables false
set_option linter.unusedSimpArgs false
section
variable {H : Type} {enc : TypeId × Value → H}
theorem pick_lists {n : Nat} {P : Nat → Value → List Int → Prop} (h : ∀ i, i < n → ∃ x l, P i x l) : ∃ (hs : List Value) (ls : List (List Int)), hs.length = n ∧ ls.length = n ∧ ∀ (i : Nat) x l, hs[i]? = some x → ls[i]? = some l → P i x l := by
  induction n with
  | zero => exact ⟨[], [], rfl, rfl, fun i x l h => by simp at h⟩
  | succ n ih =>
    obtain ⟨hs, ls, h1, h2, h3⟩ := ih fun i hi => h i (by omega)
    obtain ⟨x, l, hp⟩ := h n (by omega)
    refine ⟨hs ++ [x], ls ++ [l], by simp [h1], by simp [h2], fun i y m hy hm => ?_⟩
    by_cases hi : i < n
    · rw [List.getElem?_append_left (by omega)] at hy hm
      exact h3 i y m hy hm
    · have hb := (List.getElem?_eq_some_iff.1 hy).1
      simp only [List.length_append, List.length_cons, List.length_nil] at hb
      obtain rfl : i = n := by omega
      rw [List.getElem?_append_right (by omega), show i - hs.length = 0 by omega] at hy
      rw [List.getElem?_append_right (by omega), show i - ls.length = 0 by omega] at hm
      simp at hy hm
      subst hy hm
      exact hp
theorem weights_all {P : Program} {e : TypeId} : ∀ {l : List (DataW H)} {d : DataW H}, d ∈ l → ∀ n ∈ d.weights P e, n ∈ DataW.weightsAll P e l
  | x :: l, d, h, n, hn => by
    rw [DataW.weightsAll]
    rcases List.mem_cons.1 h with rfl | h
    · exact List.mem_append.2 (.inl hn)
    · exact List.mem_append.2 (.inr (weights_all h n hn))
theorem okc_rows {W : World} {base : Nat} {v x : Value} (hc : Cell.okWide Try.prog W .any base 25 v) (h : v.cells.toList = [x]) : v = x := by
  cases v with
  | agg cs => simp [Cell.okWide, Try.underlying25, Cell.ok] at hc
  | _ => simpa [Value.cells] using h
theorem open_rows {W : World} {base : Nat} {v : Value} {d : DataW H} {p : List MemPlace} (hv : Value.okWide Try.prog W .any base 25 v) (h : DataW.Trod enc Try.prog W 0 (fun _ => true) true 25 v d p) (hz : ∀ n ∈ d.weights Try.prog 25, n ≤ reachBytes) :
    ∃ (hs : List Value) (ls : List (List Int)), ROsI W No v hs ls ∧ ∀ l ∈ ls, l.length ≤ 17592186044416 := by
  obtain ⟨fuel, hf⟩ := h
  have hc : Cell.okWide Try.prog W .any base 25 v := by
    simp only [Value.okWide, Try.underlying25] at hv
    exact hv
  rcases open_slice1 Try.underlying25 (by kernel_rfl) hf with ⟨hcs, _⟩ | ⟨a, len, cap, m, n, V, D, Pl, hcs, _, hl, hm, hmm, hxd, hx⟩
  · have hv0 : v = .slice none 0 0 := okc_rows hc hcs
    subst hv0
    exact ⟨[], [], ⟨⟨by simp [maxLen], .inl ⟨rfl, rfl⟩⟩, rfl, RO.of_rd fun j u hj => by simp at hj, fun i x l hi => by simp at hi⟩, by simp⟩
  · have hv0 : v = .slice (some a) len cap := okc_rows hc hcs
    subst hv0
    have hsp := slice_spot Try.underlying25 hc
    obtain ⟨g, off, sp⟩ := a
    dsimp only at hsp
    subst hsp
    rw [if_pos rfl] at hmm
    subst hmm
    obtain ⟨hs, ls, h1, h2, h3⟩ := pick_lists (n := len) (P := fun i x l => W.cell? ⟨g, off + i, none⟩ = some x ∧ (Shp x l.length ∧ RO W No x (iV l)) ∧ l.length ≤ 17592186044416) fun i hi => by
      obtain ⟨c1, c2⟩ := hx i (by omega)
      rw [show (⟨g, off, none⟩ : Addr).add i = ⟨g, off + i, none⟩ from by simp [Addr.add]] at c1
      rcases open_ints Try.underlying36 Try.underlying3 cells_int c2 with ⟨e, _⟩ | ⟨a', len', cap', zs, e, _, hl', hm', hzl, hdd, hx', _⟩
      · obtain e : V i = .slice none 0 0 := by simpa using e
        rw [e] at c1
        exact ⟨_, [], c1, ⟨⟨by simp [maxLen], .inl ⟨rfl, rfl⟩⟩, RO.of_rd fun j u hj => by simp [iV] at hj⟩, by simp⟩
      · obtain e : V i = .slice (some a') len' cap' := by simpa using e
        rw [e] at c1
        rw [if_pos rfl] at hzl
        by_cases h0 : cap' = 0
        · obtain rfl : len' = 0 := by omega
          subst h0
          exact ⟨_, [], c1, ⟨⟨by simp [maxLen], .inr (.inr ⟨⟨_, rfl⟩, rfl⟩)⟩, RO.of_rd fun j u hj => by simp [iV] at hj⟩, by simp⟩
        · have hsp := World.cell?_spot (hx' 0 (by omega))
          obtain ⟨g', off', sp'⟩ := a'
          obtain rfl : sp' = none := by simpa [Addr.add] using hsp
          have htl : (zs.take len').length = len' := by rw [List.length_take]; omega
          have hzz : len' ≤ 17592186044416 := by
            have e1 : D i = .slice (lits .i64 (zs.take len')) (lits .i64 (zs.drop len')) := congrArg Prod.fst hdd
            have e2 : (8 : Nat) = Try.prog.bytesOf 3 := by kernel_rfl
            have h5 : (zs.length * 8) ∈ (D i).weights Try.prog 36 := by
              rw [e1, DataW.weights, Try.underlying36]
              refine List.mem_cons.2 (.inl ?_)
              rw [← e2]
              simp [lits]
              omega
            have h6 : (D i) ∈ (List.range len).map D := List.mem_map.2 ⟨i, List.mem_range.2 hi, rfl⟩
            have h7 := hz _ (by
              rw [show d = _ from congrArg Prod.fst hxd, DataW.weights, Try.underlying25]
              exact List.mem_cons.2 (.inr (List.mem_append.2 (.inl (weights_all h6 _ h5)))))
            simp only [reachBytes] at h7
            omega
          refine ⟨_, zs.take len', c1, ⟨⟨by rw [htl]; omega, .inr (.inl ⟨g', off', cap', by rw [htl], by rw [htl]; exact hl', hm'⟩)⟩, RO.of_rd fun j u hj => ⟨g', off', len', cap', rfl, ?_⟩⟩, by rw [htl]; exact hzz⟩
          have hlt := (List.getElem?_eq_some_iff.1 hj).1
          simp only [iV, List.length_map, htl] at hlt
          have h2 := hx' j (by omega)
          rw [show (⟨g', off', none⟩ : Addr).add j = ⟨g', off' + j, none⟩ from by simp [Addr.add]] at h2
          rw [h2, ← hj]
          simp only [iV, List.getElem?_map, List.getElem?_take, if_pos hlt]
          rw [List.getD_eq_getElem?_getD, List.getElem?_eq_getElem (by omega)]
          rfl
    refine ⟨hs, ls, ⟨⟨by rw [h2]; omega, .inr (.inl ⟨g, off, m, by rw [h2], by rw [h2]; exact hl, hm⟩)⟩, by omega, RO.of_rd fun j u hj => ⟨g, off, len, m, rfl, ?_⟩, fun i x l hi hli => (h3 i x l hi hli).2.1⟩, fun l hl => ?_⟩
    rotate_left
    · obtain ⟨i, hi⟩ := List.getElem?_of_mem hl
      have hb := (List.getElem?_eq_some_iff.1 hi).1
      exact (h3 i _ l (List.getElem?_eq_getElem (show i < hs.length by omega)) hi).2.2
    have hlt := (List.getElem?_eq_some_iff.1 hj).1
    obtain ⟨l, hl2⟩ : ∃ l, ls[j]? = some l := ⟨_, List.getElem?_eq_getElem (by omega)⟩
    exact (h3 j u l hj hl2).1
end
end Go.Proofs.Ytpajjnkmaebhcaa
end
section
set_option linter.unusedVariables false
set_option linter.unusedSimpArgs false
namespace Go.Sl
open Go Go.RowKit
/-- a struct of two integers -/
class E2Ty (P : Program) (t : TypeId) : Prop where
  g : P.eqGuardType P.depth t = false
  e : ∀ (a b c d : Int) w, (Op.equalIn 10000 t (.agg #[.int .i64 a, .int .i64 b]) (.agg #[.int .i64 c, .int .i64 d])).run P w = .ok (decide (a = c ∧ b = d)) w
section
variable {P : Program} {w0 : World} {S0 : FS} {n : Nat} {F : List (Nat × Value)} {L Lk : List HP} {o : Oper} {x y : Operand} {t t' : TypeId} {a b c e : Int} {rest : List Oper} {ops : Array Oper} {Q : Exit → Act → World → Prop} {d i : Nat} {ty : TypeId} {ps : String} {af : Array Edge} {plan : List PI}
theorem q_neq2 [T : E2Ty P t] (ho : o.op = .binOp .neq t x y t') (hx : ev F x = some (.agg #[.int .i64 a, .int .i64 b])) (hy : ev F y = some (.agg #[.int .i64 c, .int .i64 e])) : R1 P w0 S0 n F L o (.bool (!decide (a = c ∧ b = e))) :=
  q_of_pure fun s hf w => by
    simp only [execOp, ho, hf.eval hx, hf.eval hy, Sem.run_bind, Result.andThen_ok, run_eqGuard_agg w _ _ _ _ _ _ T.g, run_neq_struct, T.e]
    rfl
end
open Go.Proofs
instance : E2Ty Try.prog 43 where
  g := by kernel_rfl
  e a b c d w := by
    rw [run_equalIn_agg w 9999 _ _ _ (by kernel_rfl) (by kernel_rfl)]
    simp [Program.fieldsOf, Try.underlying43, Op.eqFields, part]
    rw [run_equalIn_int w 9998 3 .i64 .i64 a c Try.underlying3, Result.andThen_ok]
    by_cases h1 : a = c
    · rw [if_neg (by simp [h1]), run_equalIn_int w 9998 3 .i64 .i64 b d Try.underlying3, Result.andThen_ok]
      by_cases h2 : b = d <;> simp [h1, h2]
    · rw [if_pos (by simp [h1])]
      simp [h1]
end Go.Sl
end
section
set_option linter.unusedVariables false
namespace Fil
theorem Fs.len {G : Nat × Nat → Nat × Nat} {ds : List (Nat × Nat)} {out : List (List (Nat × Nat))} (h : Fs G ds out) : out.flatten.length ≤ ds.length ∧ out.length ≤ out.flatten.length :=
  ⟨sub_length h.nd h.sub, flat_le fun l hl => (h.cy l hl).1⟩
theorem Fs.all {G : Nat × Nat → Nat × Nat} {ds : List (Nat × Nat)} {n : Nat} (hi : ∀ a ∈ ds, ∀ b ∈ ds, G a = G b → a = b) (hm : ∀ a ∈ ds, G a ∈ ds) (hn : ds.length ≤ n) (l : List (Nat × Nat)) (hl : ∀ z ∈ l, z ∈ ds) : Fs G ds (l.foldl (facesStep G n) []) :=
  (Fs.fold hi hm hn l [] ⟨by simp, by simp, by simp⟩ hl).1
end Fil
namespace Go.Proofs.Ytpajjnkmaebhcaa
open Go Go.RowKit Go.Sl Fil
set_option maxRecDepth 100000
set_option maxHeartbeats 8000000
set_option linter.unusedVariables false
set_option linter.unusedSimpArgs false
attribute [local irreducible] Code.wp wpList bodyPost wpQuiet Exit.then Exit.inBlock Post wpAnyH wpOp
/-- lists of darts that are read -/
structure ROd (w : World) (S : FS) (v : Value) (hs : List Value) (F : List (List (Nat × Nat))) : Prop where
  shp : Shp v F.length
  len : hs.length = F.length
  ro : RO w S v hs
  kid : ∀ (i : Nat) h l, hs[i]? = some h → F[i]? = some l → Shp h l.length ∧ RO w S h (dsV l)
end Go.Proofs.Ytpajjnkmaebhcaa
end
section
set_option linter.unusedVariables false
namespace Go.Sl
open Go Go.RowKit
section
variable {P : Program} {w0 : World} {S0 : FS} {n : Nat} {F : List (Nat × Value)} {L Lk : List HP} {x y : Operand} {t t' : TypeId} {a b c e : Int} {ops : Array Oper} {Q : Exit → Act → World → Prop} {d i : Nat} {ty : TypeId} {ps : String} {af : Array Edge} {plan : List PI}
theorem tw_neq2 {gd : Nat × Bool} {u : Nat} {want : Bool} [T : E2Ty P t] (hg : gslot ops ⟨some d, .binOp .neq t x y t', ty, ps, af, some gd⟩ = some (u, want)) (ht : fget F u = some (.bool want)) (hn : Nat.blt d n = true) (hx : ev F x = some (.agg #[.int .i64 a, .int .i64 b])) (hy : ev F y = some (.agg #[.int .i64 c, .int .i64 e])) (hkeep : ∀ w, St w0 S0 L w → St w0 S0 Lk w) (h : RP P w0 S0 n ops Q Lk plan ((d, .bool (!decide (a = c ∧ b = e))) :: F) L) : RPo P w0 S0 n ops Q Lk ⟨some d, .binOp .neq t x y t', ty, ps, af, some gd⟩ i true plan F L := fun ho => p_want ho hg ht rfl hn hkeep (q_neq2 rfl hx hy) h
end
end Go.Sl
end
section
set_option linter.unusedVariables false
namespace Fil
/-- of each vertex: where the darts that were met go to -/
def atL (P : List (Nat × Nat)) (N : Nat) : List (List Nat) := (List.range N).map fun u => (P.filter fun d => d.1 == u).map Prod.snd
theorem atL_length (P : List (Nat × Nat)) (N : Nat) : (atL P N).length = N := by simp [atL]
theorem atL_get {P : List (Nat × Nat)} {N u : Nat} (hu : u < N) : (atL P N)[u]? = some ((P.filter fun d => d.1 == u).map Prod.snd) := by
  rw [atL, List.getElem?_map, List.getElem?_range hu]; rfl
theorem atL_snoc {P : List (Nat × Nat)} {N : Nat} {d : Nat × Nat} (hd : d.1 < N) : (atL P N).set d.1 ((P.filter fun e => e.1 == d.1).map Prod.snd ++ [d.2]) = atL (P ++ [d]) N := by
  apply List.ext_getElem?
  intro j
  rw [List.getElem?_set]
  by_cases h : d.1 = j
  · subst h
    rw [if_pos rfl, if_pos (by rw [atL_length]; exact hd), atL_get hd, List.filter_append, List.map_append]
    simp
  · rw [if_neg h]
    by_cases hj : j < N
    · rw [atL_get hj, atL_get hj, List.filter_append, List.map_append]
      have h1 : (d.1 == j) = false := by simpa using h
      simp [h1]
    · rw [List.getElem?_eq_none (by rw [atL_length]; omega), List.getElem?_eq_none (by rw [atL_length]; omega)]
theorem atL_nil (N : Nat) : atL [] N = List.replicate N [] := by
  apply List.ext_getElem?
  intro j
  by_cases hj : j < N
  · rw [atL_get hj, List.getElem?_replicate, if_pos hj]; rfl
  · rw [List.getElem?_eq_none (by rw [atL_length]; omega), List.getElem?_eq_none (by simp; omega)]
theorem mem_at {P : List (Nat × Nat)} {d : Nat × Nat} : d.2 ∈ (P.filter fun e => e.1 == d.1).map Prod.snd ↔ d ∈ P := by
  rw [List.mem_map]
  constructor
  · rintro ⟨e, he, h2⟩
    obtain ⟨h1, h3⟩ := List.mem_filter.1 he
    have h3 : e.1 = d.1 := by simpa using h3
    exact (Prod.ext h3 h2 : e = d) ▸ h1
  · intro h
    exact ⟨d, List.mem_filter.2 ⟨h, by simp⟩, rfl⟩
end Fil
namespace Go.Proofs.Ytpajjnkmaebhcaa
open Go Go.RowKit Go.Sl Fil
set_option maxRecDepth 100000
set_option maxHeartbeats 8000000
set_option linter.unusedVariables false
set_option linter.unusedSimpArgs false
attribute [local irreducible] Code.wp wpList bodyPost wpQuiet Exit.then Exit.inBlock Post wpAnyH wpOp
theorem RotationDarts_ok (n : Int) (v : Value) (es : List E) (vr : Value) (hr0 : List Value) (ls : List (List Int)) (w : World) (hs : Shp v es.length) (hr : RO w No v (esV es)) (hR : ROsI w No vr hr0 ls) (hlen : ∀ l ∈ ls, l.length ≤ 17592186044416) :
    Calls Try.prog 5 #[.agg #[.int .i64 n, v], vr] w (Post w No (Just (.bool true))) := by
  refine enter0 (vs := [_, _]) Try.func5 rfl Try.ntmps5 rfl ?_
  repeat' first
    | refine k_then ?_
    | refine c_seq ?_
    | refine c_region ?_
    | refine s_nil ?_
    | refine s_move (by exact rfl) (by exact rfl) ?_
    | refine s_assign (by exact rfl) (by exact rfl) ?_
    | refine s_ldk_box (by exact rfl) (by exact rfl) (by exact .head _) (by exact rfl) (by exact rfl) ?_
    | refine o_box (by exact rfl) (by exact rfl) (fun b => ?_)
    | fail
  refine s_call (by exact rfl) (by exact rfl) (fun w h => Light7_ok n v es.length vr hr0 ls 40 w hs (rosI_old h hR) hlen (by omega)) ?_
  cases hl : light7 n es.length ls 40
  · repeat' first
      | refine k_then ?_
      | refine c_seq ?_
      | refine c_region ?_
      | refine s_nil ?_
      | refine s_move (by exact rfl) (by exact rfl) ?_
      | refine s_not (by exact rfl) (by exact rfl) ?_
      | refine s_pick_t (by exact rfl) (by exact rfl) (by exact rfl) ?_
      | refine c_cond_t (by exact rfl) ?_
      | refine g_skip (by exact rfl) (by exact rfl) (by exact rfl) (by exact rfl) ?_
      | fail
    refine s_call (vs := []) (by exact rfl) (by exact rfl) (fun w h => alive07_ok w) ?_
    repeat' first
      | refine k_then ?_
      | refine s_nil ?_
      | refine s_assign (by exact rfl) (by exact rfl) ?_
      | refine c_ret ?_
      | refine k_then_ret ?_
      | fail
    refine ret1 [] rfl rfl (by exact rfl) ⟨rfl, rfl⟩
  obtain ⟨l1, l2, l3, l4⟩ := light7_t hl
  have hle : ∀ l ∈ ls, l.length ≤ 1048576 := fun l hl => by have := l4 l hl; omega
  repeat' first
    | refine s_move (by exact rfl) (by exact rfl) ?_
    | refine s_not (by exact rfl) (by exact rfl) ?_
    | refine w_move (by exact rfl) (by exact rfl) (by exact rfl) (by exact rfl) ?_
    | refine w_ldk_box (by exact rfl) (by exact rfl) (by exact rfl) (by exact rfl) (by exact .head _) (by exact rfl) (by exact rfl) ?_
    | refine g_on (by exact rfl) (by exact rfl) ?_
    | fail
  refine s_call (by exact rfl) (by exact rfl) (fun w h => refRotRight_ok n v es vr hr0 _ w hs (ro_old h hr) (by omega) (rosI_old h hR)) ?_
  by_cases hk : rotK n es ls = 0
  · obtain ⟨hG, R, rfl, hRot⟩ := rot_sys hk
    have hRs := hR.nat
    have hlo := hG.lo
    have hRl := hRot.len
    rw [hk]
    repeat' first
      | refine k_then ?_
      | refine c_seq ?_
      | refine c_region ?_
      | refine s_nil ?_
      | refine s_move (by exact rfl) (by exact rfl) ?_
      | refine s_pick_f (by exact rfl) (by exact rfl) (by exact rfl) ?_
      | refine s_ldk_box (by exact rfl) (by exact rfl) (by exact .head _) (by exact rfl) (by exact rfl) ?_
      | refine c_skip ?_
      | (refine c_cond_p (by exact rfl) (fun h => ?_) (fun h => ?_) <;> try (exfalso; omega))
      | refine w_neq (by exact rfl) (by exact rfl) (by exact rfl) (by exact rfl) (by exact rfl) ?_
      | fail
    revert b; intro bg
    refine o_call (by exact rfl) (by exact rfl) (fun w h => rotFaces_ok n v es vr hr0 R w hs (ro_old h hr) hG (ros_old h hRs) hRot) ?_
    rintro _ _ ⟨vf, hf, rfl, hfl, rfl⟩
    refine know_row (v := vf) (by exact .head _) fun hvf _ => ?_
    have hdec := facesR_dec hG hRot
    have hin : ∀ d ∈ dartsAll n.toNat (tn es), d.1 < n.toNat ∧ d.2 < n.toNat := fun d hd => dart_lt hG hd
    have hnx : ∀ d ∈ dartsAll n.toNat (tn es), nextK (intL R) (d.1 : Int) (d.2 : Int) = (((nxt (rf R) d).1 : Int), ((nxt (rf R) d).2 : Int), true) := fun d hd =>
      nextK_nxt (by have := (hin d hd).2; omega) ((hRot.sys hG).sym ((dart_in hG hRot).1 hd))
    have hnd := hdec.perm.nodup_iff.2 hdec.nd
    have hpl := hdec.perm.length_eq
    have hmem : ∀ f ∈ facesR n.toNat (tn es) R, ∀ d ∈ f, d ∈ dartsAll n.toNat (tn es) := fun f hf d hd => hdec.perm.mem_iff.1 (List.mem_flatten.2 ⟨f, hf, hd⟩)
    have hcy := hdec.cy
    rw [dartsAll_length hG] at hpl
    have hFl := flat_le fun f hf => (hcy f hf).1
    generalize facesR n.toNat (tn es) R = Fs at *
    generalize dartsAll n.toNat (tn es) = ds at *
    generalize nxt (rf R) = G at *
    generalize hN : n.toNat = N at *
    have hnN : n = (N : Int) := by omega
    subst hnN
    repeat' first
      | refine k_then ?_
      | refine c_seq ?_
      | refine c_region ?_
      | refine s_nil ?_
      | refine s_move (by exact rfl) (by exact rfl) ?_
      | refine s_assign (by exact rfl) (by exact rfl) ?_
      | refine s_fa (by exact rfl) (by exact rfl) ?_
      | refine s_ld_box (by exact rfl) (by exact rfl) (by exact .tail _ (.tail _ (.head _))) (by exact rfl) ?_
      | refine s_neq (by exact rfl) (by exact rfl) (by exact rfl) ?_
      | refine s_extract (by exact rfl) (by exact rfl) (by exact rfl) ?_
      | refine c_skip ?_
      | (refine c_cond_p (by exact rfl) (fun h => ?_) (fun h => ?_) <;> try (exfalso; omega))
      | fail
    refine o_make (by exact rfl) (by exact rfl) (by exact rfl) (by omega) (by omega) fun va hva => ?_
    repeat' first
      | refine k_then ?_
      | refine c_seq ?_
      | refine c_region ?_
      | refine s_nil ?_
      | refine s_assign (by exact rfl) (by exact rfl) ?_
      | refine c_block ?_
      | fail
    refine c_nils 3 1 N ?_
    refine c_loop (fun x : Nat × List Value => x.1 ≤ Fs.length ∧ x.2.length = N) (fun x => [(1, vr), (2, .pointer (some ⟨bg, 0, none⟩)), (5, vf), (7, va), (8, .int .i64 (((Fs.take x.1).flatten.length : Nat) : Int)), (9, .int .i64 (x.1 : Int))])
      (fun x => [rowHP va 36 1 N x.2, starHP (kids rowN x.2 (atL (Fs.take x.1).flatten N)), rowHP vf 41 1 Fs.length hf, starHP (kids rowD hf Fs), boxHP bg 24 [.int .i64 (N : Int), v]])
      (fun x => Fs.length - x.1) (0, List.replicate N (.slice none 0 0)) [1, 0, 0, 0, 0] ⟨Nat.zero_le _, by simp⟩ ?_ ⟨rfl, rfl, rfl, rfl, rfl, rfl, trivial⟩ ?_
    · have z1 : (madeCells (Value.slice none 0 0).cells ((N : Int).toNat * 1)).toList = List.replicate N (.slice none 0 0) := by rw [made1 rfl]; rfl
      rw [z1, List.take_zero, show ([] : List (List (Nat × Nat))).flatten = [] from rfl, atL_nil, kids_nils]
      exact rfl
    rintro ⟨i, ha⟩ ⟨hi, hal⟩
    dsimp only at hi hal ⊢
    by_cases hil : i < Fs.length
    · obtain ⟨f, hf1⟩ : ∃ f, Fs[i]? = some f := ⟨_, List.getElem?_eq_getElem hil⟩
      obtain ⟨hd, hhd⟩ : ∃ hd, hf[i]? = some hd := ⟨_, List.getElem?_eq_getElem (by omega)⟩
      have hhd1 : hf[i * 1]? = some hd := by rw [Nat.mul_one]; exact hhd
      have hfm := List.mem_of_getElem? hf1
      have hkd : rowHP hd 43 2 f.length (dsV f) ∈ kids rowD hf Fs := kids_mem (f := rowD) hhd hf1
      have hnext : (Fs.take (i + 1)).flatten = (Fs.take i).flatten ++ f := by rw [List.take_add_one, hf1, List.flatten_append]; simp
      have hndi : ((Fs.take i).flatten ++ f).Nodup := by
        rw [← hnext]
        have h2 : Fs.flatten = (Fs.take (i + 1)).flatten ++ (Fs.drop (i + 1)).flatten := by rw [← List.flatten_append, List.take_append_drop]
        rw [h2] at hnd
        exact (List.nodup_append.1 hnd).1
      have hlei : ((Fs.take i).flatten ++ f).length ≤ 2 * es.length := by
        rw [← hnext, ← hpl]
        conv => rhs; rw [← List.take_append_drop (i + 1) Fs, List.flatten_append, List.length_append]
        exact Nat.le_add_right _ _
      rw [List.length_append] at hlei
      have hcf := hcy f hfm
      have hmf := hmem f hfm
      generalize (Fs.take i).flatten = P0 at *
      repeat' first
        | refine k_then ?_
        | refine c_seq ?_
        | refine c_region ?_
        | refine s_nil ?_
        | refine s_move (by exact rfl) (by exact rfl) ?_
        | refine s_assign (by exact rfl) (by exact rfl) ?_
        | refine s_lss (by exact rfl) (by exact rfl) (by exact rfl) ?_
        | refine s_len (by exact rfl) (by exact rfl) (by assumption) ?_
        | refine c_block ?_
        | refine c_skip ?_
        | (refine c_cond_p (by exact rfl) (fun h => ?_) (fun h => ?_) <;> try (exfalso; omega))
        | fail
      refine c_loop (fun x : Nat × List Value => x.1 ≤ f.length ∧ x.2.length = N) (fun x => [(1, vr), (2, .pointer (some ⟨bg, 0, none⟩)), (5, vf), (7, va), (8, .int .i64 ((P0.length : Int) + (x.1 : Int))), (9, .int .i64 (i : Int)), (10, .int .i64 (x.1 : Int))])
        (fun x => [rowHP va 36 1 N x.2, starHP (kids rowN x.2 (atL (P0 ++ f.take x.1) N)), rowHP vf 41 1 Fs.length hf, starHP (kids rowD hf Fs), boxHP bg 24 [.int .i64 (N : Int), v]])
        (fun x => f.length - x.1) (0, ha) [0, 0, 0, 0, 0] ⟨Nat.zero_le _, hal⟩ (by simp only [List.take_zero, List.append_nil]; exact rfl) (by rw [show (P0.length : Int) + ((0 : Nat) : Int) = P0.length by omega]; exact ⟨rfl, rfl, rfl, rfl, rfl, rfl, rfl, trivial⟩) ?_
      rintro ⟨j, hb⟩ ⟨hj, hbl⟩
      dsimp only at hj hbl ⊢
      refine know_kid (by exact .tail _ (.tail _ (.tail _ (.head _)))) hkd fun hsd _ => ?_
      by_cases hjl : j < f.length
      · obtain ⟨d, hd1⟩ : ∃ d, f[j]? = some d := ⟨_, List.getElem?_eq_getElem hjl⟩
        have hdm := hmf d (List.mem_of_getElem? hd1)
        have hdin := hin d hdm
        have hE := dsV_at hd1
        have hml : (j + 1) % f.length < f.length := Nat.mod_lt _ (by omega)
        have hmod : ((j : Int) + 1) % (f.length : Int) = (((j + 1) % f.length : Nat) : Int) := by simp
        have hnj : f[(j + 1) % f.length]? = some (G d) := by
          have h1 := cy_next hcf hjl
          have h2 : f[j] = d := (List.getElem?_eq_some_iff.1 hd1).2
          rw [List.getElem?_eq_getElem hml, ← h1, h2]
        have hE2 := dsV_at hnj
        have htk : f.take (j + 1) = f.take j ++ [d] := by rw [List.take_add_one, hd1]; rfl
        have hdn : d ∉ P0 ++ f.take j := fun hm => by
          have h1 : (P0 ++ (f.take j ++ f.drop j)).Nodup := by rw [List.take_append_drop]; exact hndi
          have h2 : f.drop j = d :: f.drop (j + 1) := by
            have h3 : f[j] = d := (List.getElem?_eq_some_iff.1 hd1).2
            rw [List.drop_eq_getElem_cons hjl, h3]
          rw [h2, ← List.append_assoc] at h1
          exact (List.nodup_append.1 h1).2.2 d hm d (.head _) rfl
        have hplen : (P0 ++ f.take j).length = P0.length + j := by rw [List.length_append, List.length_take]; omega
        obtain ⟨hda, hhda⟩ : ∃ hd, hb[d.1]? = some hd := ⟨_, List.getElem?_eq_getElem (by omega)⟩
        have hhda1 : hb[d.1 * 1]? = some hda := by rw [Nat.mul_one]; exact hhda
        have hka : rowHP hda 3 1 (((P0 ++ f.take j).filter fun e => e.1 == d.1).map Prod.snd).length (nV (((P0 ++ f.take j).filter fun e => e.1 == d.1).map Prod.snd)) ∈ kids rowN hb (atL (P0 ++ f.take j) N) := kids_mem (f := rowN) hhda (atL_get hdin.1)
        have hatn : d.2 ∉ ((P0 ++ f.take j).filter fun e => e.1 == d.1).map Prod.snd := fun h => hdn (mem_at.1 h)
        have hatl : (((P0 ++ f.take j).filter fun e => e.1 == d.1).map Prod.snd).length ≤ P0.length + j := by
          rw [List.length_map, ← hplen]
          exact List.length_filter_le _ _
        have hsn := atL_snoc (P := P0 ++ f.take j) hdin.1
        have hkid := atL_get (P := P0 ++ f.take j) hdin.1
        rw [List.append_assoc, ← htk] at hsn
        generalize ((P0 ++ f.take j).filter fun e => e.1 == d.1).map Prod.snd = at1 at *
        have hAl := atL_length (P0 ++ f.take j) N
        generalize atL (P0 ++ f.take j) N = A at *
        repeat' first
          | refine k_then ?_
          | refine c_seq ?_
          | refine c_region ?_
          | refine s_nil ?_
          | refine s_move (by exact rfl) (by exact rfl) ?_
          | refine s_lss (by exact rfl) (by exact rfl) (by exact rfl) ?_
          | refine s_len (by exact rfl) (by exact rfl) (by assumption) ?_
          | refine s_idx (by exact rfl) (by exact rfl) (by exact rfl) (by assumption) (by first | assumption | omega) ?_
          | refine s_ld_row (by exact rfl) (by exact rfl) (by exact .tail _ (.tail _ (.head _))) (by assumption) ?_
          | refine s_ldk_kid (by exact rfl) (by exact rfl) (by assumption) (by exact .tail _ (.tail _ (.tail _ (.head _)))) (by decide) (by assumption) (by exact rfl) ?_
          | refine o_alloc (by exact rfl) (fun b => ?_)
          | refine c_block ?_
          | refine c_skip ?_
          | (refine c_cond_p (by exact rfl) (fun h => ?_) (fun h => ?_) <;> try (exfalso; omega))
          | fail
        refine o_stk_box (i := 0) (us := [.int .i64 (d.1 : Int), .int .i64 (d.2 : Int)]) (by exact rfl) (by exact rfl) (by exact rfl) (by exact rfl) (by exact rfl) (by simp [Value.oneCell']) (by simp [Value.cells]) ?_
        repeat' first
          | refine k_then ?_
          | refine c_seq ?_
          | refine c_region ?_
          | refine s_nil ?_
          | refine s_move (by exact rfl) (by exact rfl) ?_
          | refine s_ldk_box (by exact rfl) (by exact rfl) (by exact .head _) (by exact rfl) (by exact rfl) ?_
          | fail
        revert b; intro b11
        refine s_call (by exact rfl) (by exact rfl) (fun w h => refNext_ok vr hr0 (intL R) d.1 d.2 w (rosI_old h hR)) ?_
        rw [hnx d hdm]
        repeat' first
          | refine s_move (by exact rfl) (by exact rfl) ?_
          | refine s_extract (by exact rfl) (by exact rfl) (by exact rfl) ?_
          | refine o_alloc (by exact rfl) (fun b => ?_)
          | fail
        refine o_stk_box (i := 0) (us := [.int .i64 ((G d).1 : Int), .int .i64 ((G d).2 : Int)]) (by exact rfl) (by exact rfl) (by exact rfl) (by exact rfl) (by exact rfl) (by simp [Value.oneCell']) (by simp [Value.cells]) ?_
        repeat' first
          | refine k_then ?_
          | refine c_seq ?_
          | refine s_nil ?_
          | refine s_assign (by exact rfl) (by exact rfl) ?_
          | fail
        refine know_kid (by exact .tail _ (.tail _ (.tail _ (.head _)))) hka fun hsa _ => ?_
        refine p_begin0 (.mk 0 true :: .mk 1 true :: .mk 2 true :: .mk 3 true :: .mk 4 true :: .mk 5 true :: .mk 6 true :: .mk 7 true :: .mk 8 true :: .mk 9 true :: .mk 10 true :: .mk 11 true :: .mk 12 true :: .mk 13 true :: .mk 14 true :: .mk 15 true :: .mk 16 true :: .mk 17 true :: .mk 18 true :: .mk 19 true :: .mk 20 true :: .mk 21 true :: .mk 22 true :: .mk 23 true :: .mk 24 true :: .mk 25 true :: .mk 26 true :: .mk 27 true :: .mk 28 true :: .mk 29 true :: .mk 30 true :: .mk 31 true :: .mk 32 true :: .mk 33 true :: .mk 34 true :: .mk 35 true :: .mk 36 true :: .mk 37 true :: .mk 38 true :: .mk 39 true :: .mk 40 false :: .mk 41 true :: []) (by kernel_rfl) ?_
        clear hlen l4 hle hnd hcy hdec hndi hcf hdn hRot
        repeat' first
          | (refine p_at (by exact rfl) ?_
             first
              | refine t_move (by exact rfl) (by exact rfl) (by exact fun _ h => h) ?_
              | refine t_not (by exact rfl) (by exact rfl) (by exact fun _ h => h) ?_
              | refine tw_move (by exact rfl) (by exact rfl) (by exact rfl) (by exact rfl) (by exact fun _ h => h) ?_
              | refine tw_add (by exact rfl) (by exact rfl) (by exact rfl) (by exact rfl) (by exact rfl) (by omega) (by exact fun _ h => h) ?_
              | refine tw_rem (by exact rfl) (by exact rfl) (by exact rfl) (by exact rfl) (by exact rfl) (by omega) (by exact fun _ h => h) ?_
              | refine tw_len (by exact rfl) (by exact rfl) (by exact rfl) (by exact rfl) (by assumption) (by exact fun _ h => h) ?_
              | refine tw_idx (by exact rfl) (by exact rfl) (by exact rfl) (by exact rfl) (by exact rfl) (by assumption) (by first | assumption | omega) (by exact fun _ h => h) ?_
              | refine tw_ldk_box (by exact rfl) (by exact rfl) (by exact rfl) (by exact rfl) (by exact .head _) (by exact rfl) (by exact rfl) (by exact fun _ h => h) ?_
              | refine tw_ld_row (by exact rfl) (by exact rfl) (by exact rfl) (by exact rfl) (by exact .tail _ (.tail _ (.tail _ (.tail _ (.head _))))) (by assumption) (by exact fun _ h => h) ?_
              | refine tw_ldk_kid (by exact rfl) (by exact rfl) (by exact rfl) (by exact rfl) (by assumption) (by exact .tail _ (.tail _ (.tail _ (.tail _ (.tail _ (.head _)))))) (by decide) (by assumption) (by exact rfl) (by exact fun _ h => h) ?_
              | fail)
          | fail
        rw [hmod]
        generalize hjj : (j + 1) % f.length = j2 at *
        skip
        refine p_at (by exact rfl) ?_
        refine tw_neq2 (by exact rfl) (by exact rfl) (by exact rfl) (by exact rfl) (by exact rfl) (by exact fun _ h => h) ?_
        rw [show (!decide (((G d).1 : Int) = (G d).1 ∧ ((G d).2 : Int) = (G d).2)) = false by simp]
        repeat' first
          | (refine p_at (by exact rfl) ?_
             first
              | refine t_move (by exact rfl) (by exact rfl) (by exact fun _ h => h) ?_
              | refine t_pick_f (by exact rfl) (by exact rfl) (by exact rfl) (by exact fun _ h => h) ?_
              | refine tw_move (by exact rfl) (by exact rfl) (by exact rfl) (by exact rfl) (by exact fun _ h => h) ?_
              | refine tw_fa (by exact rfl) (by exact rfl) (by exact rfl) (by exact rfl) (by exact fun _ h => h) ?_
              | refine tw_ld_box (by exact rfl) (by exact rfl) (by exact rfl) (by exact rfl) (by first | exact .tail _ (.head _) | exact .tail _ (.tail _ (.tail _ (.tail _ (.tail _ (.tail _ (.head _))))))) (by exact rfl) (by exact fun _ h => h) ?_
              | refine tw_lss (by exact rfl) (by exact rfl) (by exact rfl) (by exact rfl) (by exact rfl) (by exact fun _ h => h) ?_
              | refine tw_geq (by exact rfl) (by exact rfl) (by exact rfl) (by exact rfl) (by exact rfl) (by exact fun _ h => h) ?_
              | refine tw_idx (by exact rfl) (by exact rfl) (by exact rfl) (by exact rfl) (by exact rfl) (by assumption) (by first | assumption | omega) (by exact fun _ h => h) ?_
              | refine tw_ld_row (by exact rfl) (by exact rfl) (by exact rfl) (by exact rfl) (by exact .tail _ (.tail _ (.head _))) (by assumption) (by exact fun _ h => h) ?_
              | (refine t_case (by exact rfl) (by exact rfl) (fun h => ?_) (fun h => ?_) <;> try (exfalso; omega))
              | fail)
          | fail
        refine p_callw (by exact rfl) (by exact rfl) (by exact rfl) (by exact rfl) (by exact rfl) (fun w h => HasN_ok hda at1 d.2 w hsa (ro_kid h (by exact .tail _ (.tail _ (.tail _ (.head _)))) hka)) (by exact fun _ h => h) ?_
        rw [decide_eq_false hatn]
        repeat' first
          | refine p_nil ?_
          | (refine p_at (by exact rfl) ?_
             first
              | refine t_pick_f (by exact rfl) (by exact rfl) (by exact rfl) (by exact fun _ h => h) ?_
              | fail)
          | fail
        repeat' first
          | refine k_then ?_
          | refine c_seq ?_
          | refine c_skip ?_
          | refine c_cond_f (by exact rfl) ?_
          | fail
        refine c_take 3 d.1 (by exact rfl) (kids_get (f := rowN) hhda hkid) ?_
        refine p_begin [(0, true), (1, true), (2, true), (3, true), (4, true), (5, true), (6, true), (8, true), (9, true), .rd 7 10, (11, false), (12, true), (13, false)] [boxHP b11 43 [.int .i64 (d.1 : Int), .int .i64 (d.2 : Int)]] (by kernel_rfl) ?_
        repeat' first
          | (refine p_at (by exact rfl) ?_
             first
              | refine t_move (by exact rfl) (by exact rfl) (by exact fun _ h => h.pick [2] (by exact rfl)) ?_
              | refine t_fa (by exact rfl) (by exact rfl) (by exact fun _ h => h.pick [2] (by exact rfl)) ?_
              | refine t_ld_box (by exact rfl) (by exact rfl) (by exact .head _) (by exact rfl) (by exact fun _ h => h.pick [2] (by exact rfl)) ?_
              | refine t_idx (by exact rfl) (by exact rfl) (by exact rfl) (by assumption) (by first | assumption | omega) (by exact fun _ h => h.pick [2] (by exact rfl)) ?_
              | fail)
          | fail
        refine p_rd ?_ ?_
        all_goals
          repeat' first
            | (refine p_at (by exact rfl) ?_
               first
                | refine r_ld_row (by exact rfl) (by exact rfl) (by exact .tail _ (.tail _ (.tail _ (.head _)))) (by assumption) (by exact fun _ h => h.pick [2] (by exact rfl)) ?_
                | fail)
            | fail
          refine p_mk [_] (by exact rfl) rfl (by exact rfl) rfl ?_ ?_ (by simp) (fun w A h => h.pick [3] (by exact rfl)) (fun sx hsx => ?_)
          · simp [Value.cells]
          · simp
          repeat' first
            | (refine p_at (by exact rfl) ?_
               first
                | refine r_ld_row (by exact rfl) (by exact rfl) (by exact .tail _ (.tail _ (.tail _ (.tail _ (.head _))))) (by assumption) (by exact fun _ h => h.pick [3] (by exact rfl)) ?_
                | fail)
            | fail
          refine p_append_row (j := 1) (by exact rfl) rfl (by exact rfl) (by exact rfl) (by exact rfl) (by exact .head _) (by exact rfl) (by simp [Value.cells, Value.oneCell']) ?_ (fun w v h => h.pick [3] (by exact rfl)) (fun vk hvk => ?_)
          · simp only [List.length_cons, List.length_nil]; omega
          repeat' first
            | (refine p_at (by exact rfl) ?_
               first
                | refine t_idx (by exact rfl) (by exact rfl) (by exact rfl) (by assumption) (by first | assumption | omega) (by exact fun _ h => h.pick [3] (by exact rfl)) ?_
                | fail)
            | fail
          refine p_st_row (j := 4) (by exact rfl) (by exact rfl) (by exact rfl) (by exact rfl) hvk.one (by omega) (fun w h => h.pick [3] (by exact rfl)) ?_
          repeat' first
            | refine p_nil ?_
            | fail
          repeat' first
            | refine k_then ?_
            | refine c_region ?_
            | refine s_nil ?_
            | refine s_move (by exact rfl) (by exact rfl) ?_
            | refine s_assign (by exact rfl) (by exact rfl) ?_
            | refine s_add (by exact rfl) (by exact rfl) (by exact rfl) (by omega) ?_
            | refine k_blk ?_
            | fail
          refine c_pick [1, 3, 3, 3, 3, 3] (by exact rfl) ?_
          have e1 : rowHP vk 3 1 (at1.length + 1) (nV at1 ++ [Value.int .i64 (d.2 : Int)]) = rowN vk (at1 ++ [d.2]) := rowN_snoc _ _ _
          refine c_give 1 d.1 (by exact rfl) (by simp [kids]; omega) ?_
          refine c_round (j + 1, hb.set d.1 vk) [0, 0, 0, 0, 0] ?_ (by rw [show (P0.length : Int) + ((j + 1 : Nat) : Int) = (P0.length : Int) + (j : Int) + 1 by omega]; exact ⟨rfl, rfl, rfl, rfl, rfl, rfl, rfl, trivial⟩) ⟨by dsimp only; omega, by dsimp only; rw [List.length_set]; exact hbl⟩ (by dsimp only; omega)
          dsimp only
          rw [← hsn, ← kids_set (x := empHP), ← e1, Nat.mul_one]
          exact rfl
      · repeat' first
          | refine k_then ?_
          | refine c_seq ?_
          | refine c_region ?_
          | refine s_nil ?_
          | refine s_move (by exact rfl) (by exact rfl) ?_
          | refine s_assign (by exact rfl) (by exact rfl) ?_
          | refine s_lss (by exact rfl) (by exact rfl) (by exact rfl) ?_
          | refine s_add (by exact rfl) (by exact rfl) (by exact rfl) (by omega) ?_
          | refine s_len (by exact rfl) (by exact rfl) (by assumption) ?_
          | refine s_idx (by exact rfl) (by exact rfl) (by exact rfl) (by assumption) (by first | assumption | omega) ?_
          | refine s_ld_row (by exact rfl) (by exact rfl) (by exact .tail _ (.tail _ (.head _))) (by assumption) ?_
          | refine c_exit ?_
          | refine k_then_exit ?_
          | refine k_blk ?_
          | refine k_blk_eq ?_
          | (refine c_cond_p (by exact rfl) (fun h => ?_) (fun h => ?_) <;> try (exfalso; omega))
          | fail
        obtain rfl : j = f.length := by omega
        refine c_round (i + 1, hb) [0, 0, 0, 0, 0] (by dsimp only; rw [hnext, List.take_length]; exact rfl) (by dsimp only; rw [hnext, List.length_append, Int.natCast_add]; exact ⟨rfl, rfl, rfl, rfl, rfl, rfl, trivial⟩) ⟨by dsimp only; omega, hbl⟩ (by dsimp only; omega)
    · obtain rfl : i = Fs.length := by omega
      rw [List.take_length, hpl]
      repeat' first
        | refine k_then ?_
        | refine c_seq ?_
        | refine c_region ?_
        | refine s_nil ?_
        | refine s_move (by exact rfl) (by exact rfl) ?_
        | refine s_fa (by exact rfl) (by exact rfl) ?_
        | refine s_ld_box (by exact rfl) (by exact rfl) (by exact .tail _ (.tail _ (.tail _ (.tail _ (.head _))))) (by exact rfl) ?_
        | refine s_lss (by exact rfl) (by exact rfl) (by exact rfl) ?_
        | refine s_eql (by exact rfl) (by exact rfl) (by exact rfl) ?_
        | refine s_mul (by exact rfl) (by exact rfl) (by exact rfl) (by omega) ?_
        | refine s_len (by exact rfl) (by exact rfl) (by assumption) ?_
        | refine c_exit ?_
        | refine k_then_exit ?_
        | refine k_blk_eq ?_
        | (refine c_cond_p (by exact rfl) (fun h => ?_) (fun h => ?_) <;> try (exfalso; omega))
        | (refine g_case (by exact rfl) (by exact rfl) (fun h => ?_) (fun h => ?_) <;> try (exfalso; omega))
        | refine g_on (by exact rfl) (by exact rfl) ?_
        | fail
      refine s_call (vs := []) (by exact rfl) (by exact rfl) (fun w h => alive07_ok w) ?_
      repeat' first
        | refine k_then ?_
        | refine s_nil ?_
        | refine s_assign (by exact rfl) (by exact rfl) ?_
        | refine s_pick_t (by exact rfl) (by exact rfl) (by exact rfl) ?_
        | refine c_ret ?_
        | fail
      refine ret1 [] rfl rfl (by exact rfl) ⟨rfl, rfl⟩
  · repeat' first
      | refine k_then ?_
      | refine c_seq ?_
      | refine c_region ?_
      | refine s_nil ?_
      | refine s_pick_f (by exact rfl) (by exact rfl) (by exact rfl) ?_
      | (refine c_cond_p (by exact rfl) (fun h => ?_) (fun h => ?_) <;> try (exfalso; omega))
      | refine w_neq (by exact rfl) (by exact rfl) (by exact rfl) (by exact rfl) (by exact rfl) ?_
      | fail
    refine s_call (vs := []) (by exact rfl) (by exact rfl) (fun w h => alive07_ok w) ?_
    repeat' first
      | refine k_then ?_
      | refine s_nil ?_
      | refine s_assign (by exact rfl) (by exact rfl) ?_
      | refine c_ret ?_
      | refine k_then_ret ?_
      | fail
    refine ret1 [] rfl rfl (by exact rfl) ⟨rfl, rfl⟩
end Go.Proofs.Ytpajjnkmaebhcaa
end
