/- Of FacesWhole: part 3: what the walks rest on, contracts of functions and plain lemmas; no condition but those that each states. -/
import Derived.Test.YtpajjnkmaebhcaaGreatFw2
import Derived.DeepKeys4
import Derived.ProofKit
import Derived.Shelf.SlSortCmp.NoneTotal
import Derived.Shelf.SlGeneric
import Derived.Scope
set_option linter.unusedVariables false
set_option linter.unusedSimpArgs false
section
set_option linter.unusedVariables false
set_option linter.unusedSectionVars false
namespace Fil
abbrev rf (R : List (List Nat)) (v : Nat) : List Nat := R.getD v []
structure RotL (N : Nat) (l : List (Nat × Nat)) (R : List (List Nat)) : Prop where
  len : R.length = N
  perm : ∀ v, v < N → (rf R v).Perm (nb l v)
variable {n : Int} {es : List E} {R : List (List Nat)} {o lab : Nat → Nat}
theorem tn_nodup (hR : RightG n es) : (tn es).Nodup := by
  rw [tn, List.Nodup, List.pairwise_map]
  refine hR.sorted.imp_of_mem fun {a b} ha hb h e => ?_
  obtain ⟨a1, a2, -, -, -⟩ := hR.ok a ha
  obtain ⟨b1, b2, -, -, -⟩ := hR.ok b hb
  simp only [Prod.mk.injEq] at e
  simp only [ltE] at h
  omega
theorem nb_nd {N : Nat} {l : List (Nat × Nat)} (hG : Good N l) (hl : l.Nodup) (v : Nat) : (nb l v).Nodup := by
  rw [nb, List.Nodup, List.pairwise_filterMap]
  refine hl.imp_of_mem fun {a b} ha hb hne x hx y hy e => hne ?_
  have h1 := hG.lt a ha
  have h2 := hG.lt b hb
  subst e
  have ha' : a.1 = v ∧ a.2 = x ∨ a.1 ≠ v ∧ a.2 = v ∧ a.1 = x := by
    split at hx
    · exact .inl ⟨‹_›, by simpa using hx⟩
    · split at hx
      · exact .inr ⟨‹_›, ‹_›, by simpa using hx⟩
      · simp at hx
  have hb' : b.1 = v ∧ b.2 = x ∨ b.1 ≠ v ∧ b.2 = v ∧ b.1 = x := by
    split at hy
    · exact .inl ⟨‹_›, by simpa using hy⟩
    · split at hy
      · exact .inr ⟨‹_›, ‹_›, by simpa using hy⟩
      · simp at hy
  exact Prod.ext (by omega) (by omega)
theorem good_ne {N : Nat} {l : List (Nat × Nat)} (hG : Good N l) : ∀ e ∈ l, e.1 ≠ e.2 := fun e he => by have := hG.lt e he; omega
theorem RotL.mem (hR : RightG n es) (h : RotL n.toNat (tn es) R) {u v : Nat} : u ∈ rf R v ↔ u ∈ nb (tn es) v := by
  by_cases hv : v < n.toNat
  · exact (h.perm v hv).mem_iff
  · have h1 : rf R v = [] := by rw [rf, List.getD_eq_getElem?_getD, List.getElem?_eq_none (by have := h.len; omega)]; rfl
    rw [h1]
    refine ⟨fun h => by simp at h, fun h => ?_⟩
    exfalso
    have hG := hR.good
    rcases (mem_nb (good_ne hG)).1 h with h | h
    · have := hG.lt _ h; simp at this; omega
    · have := hG.lt _ h; simp at this; omega
theorem RotL.sys (hR : RightG n es) (h : RotL n.toNat (tn es) R) : Sys (tn es) (rf R) where
  nd v := by
    by_cases hv : v < n.toNat
    · exact (h.perm v hv).nodup_iff.2 (nb_nd hR.good (tn_nodup hR) v)
    · have h1 : rf R v = [] := by rw [rf, List.getD_eq_getElem?_getD, List.getElem?_eq_none (by have := h.len; omega)]; rfl
      rw [h1]; simp
  ed u v := by rw [h.mem hR, mem_nb (good_ne hR.good)]
  lt e he := (hR.good.lt e he).1
  ndl := tn_nodup hR
theorem RotL.lt (hR : RightG n es) (h : RotL n.toNat (tn es) R) {u v : Nat} (hu : u ∈ rf R v) : u < n.toNat ∧ v < n.toNat := by
  have hG := hR.good
  rcases (mem_nb (good_ne hG)).1 ((h.mem hR).1 hu) with h | h
  · have := hG.lt _ h; simp at this; omega
  · have := hG.lt _ h; simp at this; omega
theorem near_rot (hR : RightG n es) : RotL n.toNat (tn es) ((List.range n.toNat).map (nearS (tn es))) where
  len := by simp
  perm v hv := by
    rw [rf, List.getD_eq_getElem?_getD, List.getElem?_map, List.getElem?_range hv]
    exact List.mergeSort_perm _ _
/-- all darts, as they come sorted -/
def dartsAll (N : Nat) (l : List (Nat × Nat)) : List (Nat × Nat) := dartsOf (nearS l) (List.range N)
theorem darts_all (hR : RightG n es) (h : RotL n.toNat (tn es) R) : (dartsOf (rf R) (List.range n.toNat)).Perm (dartsAll n.toNat (tn es)) := by
  have h1 : dartsAll n.toNat (tn es) = dartsOf (rf ((List.range n.toNat).map (nearS (tn es)))) (List.range n.toNat) := by
    rw [dartsAll, dartsOf, dartsOf, List.flatMap_def, List.flatMap_def]
    congr 1
    apply List.map_congr_left
    intro v hv
    have hv : v < n.toNat := by simpa using hv
    simp [vc, rf, hv]
  rw [h1]
  refine perm_of_nodup (darts_nodup (h.sys hR) List.nodup_range) (darts_nodup ((near_rot hR).sys hR) List.nodup_range) fun d => ?_
  rw [mem_darts, mem_darts, h.mem hR, (near_rot hR).mem hR]
theorem comp_shut (hR : RightG n es) (h : RotL n.toNat (tn es) R) (hL : Lev n.toNat (nb (tn es)) o lab) {c : List Nat} (hc : c ∈ compsS n.toNat lab) : ∀ v ∈ c, ∀ u ∈ rf R v, u ∈ c := by
  obtain ⟨r, hr, hrr, rfl⟩ := comp_mem hc
  intro v hv u hu
  obtain ⟨h1, h2⟩ := List.mem_filter.1 hv
  have h3 := h.lt hR hu
  have h4 := (hL.edge v h3.2 u ((h.mem hR).1 hu)).1
  refine List.mem_filter.2 ⟨by simpa using h3.1, ?_⟩
  rw [h4]; exact h2
theorem comp_nodup {N : Nat} {c : List Nat} (hc : c ∈ compsS N lab) : c.Nodup := by
  obtain ⟨r, hr, hrr, rfl⟩ := comp_mem hc
  exact List.nodup_range.sublist List.filter_sublist
theorem comp_ne {N : Nat} {c : List Nat} (hc : c ∈ compsS N lab) : c ≠ [] := by
  obtain ⟨r, hr, hrr, rfl⟩ := comp_mem hc
  exact List.ne_nil_of_mem (List.mem_filter.2 ⟨List.mem_range.2 hr, by simp [hrr]⟩)
theorem comp_grow (hR : RightG n es) (h : RotL n.toNat (tn es) R) (hL : Lev n.toNat (nb (tn es)) o lab) {c : List Nat} (hc : c ∈ compsS n.toNat lab) : ∃ c', c'.Perm c ∧ Grow (rf R) c' := by
  have hnd := comp_nodup hc
  have hs := comp_shut hR h hL hc
  obtain ⟨r, hr, hrr, rfl⟩ := comp_mem hc
  generalize hcc : (List.range n.toNat).filter (fun u => lab u == r) = c at *
  have hm : ∀ u, u ∈ c ↔ u < n.toNat ∧ lab u = r := fun u => by rw [← hcc]; simp
  have hp := List.mergeSort_perm c fun a b => decide (o a ≤ o b)
  refine ⟨c.mergeSort fun a b => decide (o a ≤ o b), hp, fun A w B e hA => ?_⟩
  have hsort : (c.mergeSort fun a b => decide (o a ≤ o b)).Pairwise fun a b => decide (o a ≤ o b) = true :=
    List.pairwise_mergeSort (fun a b c h1 h2 => by simp at *; omega) (fun a b => by simp; omega) c
  have hnd' := hp.nodup_iff.2 hnd
  rw [e] at hsort hnd' hp
  have hwc : w ∈ c := hp.mem_iff.1 (by simp)
  obtain ⟨hwN, hwr⟩ := (hm w).1 hwc
  obtain ⟨p1, p2, p3⟩ := List.pairwise_append.1 hsort
  obtain ⟨p4, p5⟩ := List.pairwise_cons.1 p2
  cases ho : o w with
  | zero =>
    exfalso
    obtain ⟨a, ha⟩ := List.exists_mem_of_ne_nil _ hA
    have hac : a ∈ c := hp.mem_iff.1 (by simp [ha])
    obtain ⟨haN, har⟩ := (hm a).1 hac
    have h1 : o a ≤ o w := by simpa using p3 a ha w (.head _)
    have h2 := (hL.root a haN).1 (by omega)
    have h3 := (hL.root w hwN).1 ho
    have h4 : a = w := by omega
    exact (List.nodup_append.1 hnd').2.2 a ha w (.head _) h4
  | succ k =>
    obtain ⟨u, hu, hk⟩ := hL.up w k hwN ho
    have hur : u ∈ rf R w := (h.mem hR).2 hu
    refine ⟨u, ?_, (h.sys hR).sym hur⟩
    have := hp.mem_iff.2 (hs w hwc u hur)
    rcases List.mem_append.1 this with h1 | h1
    · exact h1
    · exfalso
      rcases List.mem_cons.1 h1 with rfl | h1
      · omega
      · have : o w ≤ o u := by simpa using p4 u h1
        omega
theorem grow_ne {l : List (Nat × Nat)} {R : Nat → List Nat} {c : List Nat} (hS : Sys l R) (hg : Grow R c) (h2 : 2 ≤ c.length) : ∀ v ∈ c, R v ≠ [] := by
  intro v hv
  obtain ⟨A, B, rfl⟩ := List.append_of_mem hv
  by_cases hA : A = []
  · subst hA
    cases B with
    | nil => simp at h2
    | cons w B =>
      obtain ⟨u, hu, hw⟩ := hg [v] w B rfl (by simp)
      obtain rfl : u = v := by simpa using hu
      exact List.ne_nil_of_mem hw
  · obtain ⟨u, hu, hw⟩ := hg A v B rfl hA
    exact List.ne_nil_of_mem (hS.sym hw)
theorem Dec.nil {α : Type} {p : α → α} {C : List (List α)} (h : Dec p [] C) : C = [] := by
  cases C with
  | nil => rfl
  | cons l C =>
    have := h.perm.eq_nil
    simp at this
    exact absurd this.1 (h.cy l (.head _)).1
/-- a component's number -/
def eulerK (l : List (Nat × Nat)) (F : List (List (Nat × Nat))) (c : List Nat) : Int := (if c.length = 1 then 2 else (c.length : Int)) - ((l.filter fun e => decide (e.1 ∈ c)).length : Int) + ((F.filter fun f => decide ((f.headD (0, 0)).1 ∈ c)).length : Int)
def eulerL (N : Nat) (l : List (Nat × Nat)) (lab : Nat → Nat) (F : List (List (Nat × Nat))) : List Int := (compsS N lab).map (eulerK l F)
theorem single (hR : RightG n es) (h : RotL n.toNat (tn es) R) (hL : Lev n.toNat (nb (tn es)) o lab) {c : List Nat} (hc : c ∈ compsS n.toNat lab) (h1 : c.length = 1) : dartsOf (rf R) c = [] ∧ (tn es).filter (fun e => decide (e.1 ∈ c)) = [] := by
  have hs := comp_shut hR h hL hc
  obtain ⟨v, rfl⟩ := List.length_eq_one_iff.1 h1
  have hv : rf R v = [] := by
    refine List.eq_nil_iff_forall_not_mem.2 fun u hu => ?_
    have := hs v (by simp) u hu
    exact (h.sys hR).ne hu (by simpa using this)
  refine ⟨by rw [dartsOf, List.flatMap_cons, List.flatMap_nil, vc, hv]; rfl, List.filter_eq_nil_iff.2 fun e he hd => ?_⟩
  obtain rfl : e.1 = v := by simpa using hd
  have : e.2 ∈ rf R e.1 := ((h.sys hR).ed _ _).2 (.inl he)
  rw [hv] at this; simp at this
theorem comp_count (hR : RightG n es) (h : RotL n.toNat (tn es) R) (hL : Lev n.toNat (nb (tn es)) o lab) {F : List (List (Nat × Nat))} (hF : Dec (nxt (rf R)) (dartsAll n.toNat (tn es)) F) {c : List Nat} (hc : c ∈ compsS n.toNat lab) :
    Dec (nxt (rf R)) (dartsOf (rf R) c) (F.filter fun f => decide ((f.headD (0, 0)).1 ∈ c)) :=
  faces_in (h.sys hR) (comp_nodup hc) (comp_shut hR h hL hc) (fun v hv => by
    obtain ⟨r, hr, hrr, rfl⟩ := comp_mem hc
    exact (List.mem_filter.1 hv).1) (hF.to (darts_all hR h).symm)
theorem darts_perm {R : Nat → List Nat} {c c' : List Nat} (h : c'.Perm c) : (dartsOf R c').Perm (dartsOf R c) := h.flatMap_right _
theorem euler_two (hR : RightG n es) (h : RotL n.toNat (tn es) R) (hL : Lev n.toNat (nb (tn es)) o lab) {F : List (List (Nat × Nat))} (hF : Dec (nxt (rf R)) (dartsAll n.toNat (tn es)) F) {c : List Nat} (hc : c ∈ compsS n.toNat lab) :
    ∃ g : Nat, eulerK (tn es) F c + 2 * g = 2 := by
  have hcc := comp_count hR h hL hF hc
  by_cases h1 : c.length = 1
  · obtain ⟨d1, d2⟩ := single hR h hL hc h1
    rw [d1] at hcc
    refine ⟨0, ?_⟩
    rw [eulerK, d2, hcc.nil, if_pos h1]
    simp
  · obtain ⟨c', hp, hg⟩ := comp_grow hR h hL hc
    have hl : c.length ≠ 0 := fun e => comp_ne hc (List.eq_nil_of_length_eq_zero e)
    have hpl := hp.length_eq
    obtain ⟨C, g, g1, g2⟩ := genus (h.sys hR) (hp.nodup_iff.2 (comp_nodup hc)) (fun v hv u hu => hp.mem_iff.2 (comp_shut hR h hL hc v (hp.mem_iff.1 hv) u hu)) hg (grow_ne (h.sys hR) hg (by omega)) (by intro e; rw [e] at hpl; simp at hpl; omega)
    have e1 := (g1.to (darts_perm hp)).count hcc
    have e2 : ((tn es).filter fun e => decide (e.1 ∈ c')) = (tn es).filter fun e => decide (e.1 ∈ c) := List.filter_congr fun e _ => decide_eq_decide.2 hp.mem_iff
    rw [e2] at g2
    refine ⟨g, ?_⟩
    rw [eulerK, if_neg h1]
    omega
end Fil
end
section
set_option linter.unusedVariables false
namespace Fil
/-- is a system right -/
def rotB (n : Int) (es : List E) (ls : List (List Int)) (v : Nat) : Bool := decide ((ls.getD v []).mergeSort (fun x y => decide (x ≤ y)) = (nearS (tn es) v).map fun (k : Nat) => (k : Int))
def rotK (n : Int) (es : List E) (ls : List (List Int)) : Int :=
  if rightK n es ≠ 0 then 1 else if (ls.length : Int) ≠ n then 12 else if (List.range n.toNat).all (rotB n es ls) then 0 else 12
end Fil
namespace Go.Sl
open Go Go.RowKit
/-- rows that are read, by rows of integers -/
structure ROsI (w : World) (S : FS) (v : Value) (hs : List Value) (ls : List (List Int)) : Prop where
  shp : Shp v ls.length
  len : hs.length = ls.length
  ro : RO w S v hs
  kid : ∀ (i : Nat) h l, hs[i]? = some h → ls[i]? = some l → Shp h l.length ∧ RO w S h (iV l)
theorem rosI_old {w0 w : World} {S0 : FS} {L : List HP} {v : Value} {hs : List Value} {ls : List (List Int)} (h : St w0 S0 L w) (hr : ROsI w0 S0 v hs ls) : ROsI w No v hs ls :=
  ⟨hr.shp, hr.len, ro_old h hr.ro, fun i x l h1 h2 => ⟨(hr.kid i x l h1 h2).1, ro_old h (hr.kid i x l h1 h2).2⟩⟩
def intL (R : List (List Nat)) : List (List Int) := R.map fun l => l.map fun (k : Nat) => (k : Int)
theorem ROs.int {w : World} {S : FS} {v : Value} {hs : List Value} {R : List (List Nat)} (h : ROs w S v hs R) : ROsI w S v hs (intL R) :=
  ⟨by simpa [intL] using h.shp, by simpa [intL] using h.len, h.ro, fun i x l h1 h2 => by
    simp only [intL, List.getElem?_map, Option.map_eq_some_iff] at h2
    obtain ⟨l', h2, rfl⟩ := h2
    have := h.kid i x l' h1 h2
    rw [← nV_iV]
    exact ⟨by simpa using this.1, this.2⟩⟩
theorem ROsI.nat {w : World} {S : FS} {v : Value} {hs : List Value} {R : List (List Nat)} (h : ROsI w S v hs (intL R)) : ROs w S v hs R :=
  ⟨by simpa [intL] using h.shp, by simpa [intL] using h.len, h.ro, fun i x l h1 h2 => by
    have := h.kid i x (l.map fun (k : Nat) => (k : Int)) h1 (by simp [intL, h2])
    rw [← nV_iV] at this
    exact ⟨by simpa using this.1, this.2⟩⟩
end Go.Sl
namespace Go.Proofs.YtpajjnkmaebhcaaGreat
open Go.RowKit Go.Sl Fil
set_option maxRecDepth 100000
set_option maxHeartbeats 8000000
set_option linter.unusedVariables false
set_option linter.unusedSimpArgs false
attribute [local irreducible] Code.wp wpList bodyPost wpQuiet Exit.then Exit.inBlock Post wpAnyH wpOp
theorem Equal_ok (a b : Value) (x y : List Int) (w : World) (ha : Shp a x.length) (hb : Shp b y.length) (hra : RO w No a (iV x)) (hrb : RO w No b (iV y)) :
    Calls Tryz.prog 81 #[a, b] w (Post w No (Just (.bool (decide (x = y))))) := by
  have hm := ha.1
  simp only [maxLen] at hm
  refine enter0 (vs := [_, _]) Tryz.func81 rfl Tryz.ntmps81 rfl ?_
  repeat' first
    | refine k_then ?_ | refine c_seq ?_ | refine c_region ?_ | refine s_nil ?_ | refine s_move (by exact rfl) (by exact rfl) ?_ | refine s_assign (by exact rfl) (by exact rfl) ?_ | refine s_neq (by exact rfl) (by exact rfl) (by exact rfl) ?_ | refine s_len (by exact rfl) (by exact rfl) (by assumption) ?_ | refine c_block ?_ | refine c_skip ?_ | refine c_ret ?_ | refine k_then_ret ?_ | (refine c_cond_p (by exact rfl) (fun h => ?_) (fun h => ?_) <;> try (exfalso; omega))
  · refine ret1 [] rfl rfl rfl ⟨congrArg Value.bool ?_, rfl⟩
    exact (decide_eq_false fun e => h (by rw [e])).symm
  · refine c_loop (fun k : Nat => k ≤ x.length ∧ x.take k = y.take k) (fun k => [(0, a), (1, b), (12, .int .i64 (x.length : Int)), (13, .int .i64 (k : Int))]) (fun _ => []) (fun k => x.length - k) 0 [] ⟨by omega, rfl⟩ rfl ⟨rfl, rfl, rfl, rfl, trivial⟩ ?_
    rintro k ⟨hk, hq⟩
    by_cases hlt : k < x.length
    · obtain ⟨c, hc⟩ : ∃ c, x[k]? = some c := ⟨_, List.getElem?_eq_getElem hlt⟩
      obtain ⟨d, hd⟩ : ∃ d, y[k]? = some d := ⟨_, List.getElem?_eq_getElem (by omega)⟩
      have h1 : (iV x)[k * 1]? = some (.int .i64 c) := by simp [iV, hc]
      have h2 : (iV y)[k * 1]? = some (.int .i64 d) := by simp [iV, hd]
      repeat' first
        | refine k_then ?_ | refine c_seq ?_ | refine c_region ?_ | refine s_nil ?_ | refine s_move (by exact rfl) (by exact rfl) ?_ | refine s_assign (by exact rfl) (by exact rfl) ?_ | refine s_lss (by exact rfl) (by exact rfl) (by exact rfl) ?_ | refine c_block ?_ | refine c_skip ?_ | (refine c_cond_p (by exact rfl) (fun h => ?_) (fun h => ?_) <;> try (exfalso; omega))
      refine p_begin0 [(0, true), (1, true), (2, true), (3, true), (4, true), (5, true), (6, true), (7, true), (8, true)] (by kernel_rfl) ?_
      repeat' first
        | refine p_nil ?_
        | (refine p_at (by exact rfl) ?_
           first
            | refine t_move (by exact rfl) (by exact rfl) (by exact fun _ h => h) ?_ | refine t_neq (by exact rfl) (by exact rfl) (by exact rfl) (by exact fun _ h => h) ?_ | refine t_idx (by exact rfl) (by exact rfl) (by exact rfl) (by assumption) (by first | assumption | omega) (by exact fun _ h => h) ?_ | refine t_ld_ro (by exact rfl) (by exact rfl) (by assumption) (by assumption) (by exact fun _ h => h) ?_)
      repeat' first
        | refine k_then ?_ | refine c_seq ?_ | refine c_region ?_ | refine s_nil ?_ | refine s_move (by exact rfl) (by exact rfl) ?_ | refine s_assign (by exact rfl) (by exact rfl) ?_ | refine s_add (by exact rfl) (by exact rfl) (by exact rfl) (by omega) ?_ | refine c_skip ?_ | refine c_ret ?_ | refine k_then_ret ?_ | refine k_blk ?_ | refine k_blk_ret ?_ | (refine c_cond_p (by exact rfl) (fun h => ?_) (fun h => ?_) <;> try (exfalso; omega))
      · refine ret1 [] rfl rfl rfl ⟨congrArg Value.bool ?_, rfl⟩
        refine (decide_eq_false fun e => ?_).symm
        subst e
        rw [hc] at hd
        simp at hd
        omega
      · refine c_round (k + 1) [] (by exact rfl) (by exact ⟨rfl, rfl, rfl, rfl, trivial⟩) ⟨by omega, ?_⟩ (by omega)
        have : c = d := by omega
        subst this
        rw [List.take_add_one, List.take_add_one, hq, hc, hd]
    · repeat' first
        | refine k_then ?_ | refine c_seq ?_ | refine c_region ?_ | refine s_nil ?_ | refine s_assign (by exact rfl) (by exact rfl) ?_ | refine s_lss (by exact rfl) (by exact rfl) (by exact rfl) ?_ | refine c_exit ?_ | refine c_ret ?_ | refine k_then_exit ?_ | refine k_blk_eq ?_ | (refine c_cond_p (by exact rfl) (fun h => ?_) (fun h => ?_) <;> try (exfalso; omega))
      refine ret1 [] rfl rfl rfl ⟨congrArg Value.bool ?_, rfl⟩
      refine (decide_eq_true ?_).symm
      rw [List.take_of_length_le (by omega), List.take_of_length_le (by omega)] at hq
      exact hq
theorem rotRight_ok (n : Int) (v : Value) (es : List E) (vr : Value) (hr0 : List Value) (ls : List (List Int)) (w : World) (hs : Shp v es.length) (hr : RO w No v (esV es)) (hm : es.length < 4611686018427387904) (hR : ROsI w No vr hr0 ls) (hlen : ∀ l ∈ ls, l.length ≤ 1048576) :
    Calls Tryz.prog 56 #[.agg #[.int .i64 n, v], vr] w (Post w No (Just (.int .i64 (rotK n es ls)))) := by
  have hsr := hR.shp
  have hrr := hR.ro
  have hls := hsr.1
  simp only [maxLen] at hls
  refine enter0 (vs := [_, _]) Tryz.func56 rfl Tryz.ntmps56 rfl ?_
  repeat' first
    | refine k_then ?_ | refine c_seq ?_ | refine c_region ?_ | refine s_nil ?_ | refine s_assign (by exact rfl) (by exact rfl) ?_ | refine s_ldk_box (by exact rfl) (by exact rfl) (by exact .head _) (by exact rfl) (by exact rfl) ?_ | refine o_box (by exact rfl) (by exact rfl) (fun b => ?_)
  refine s_call (by exact rfl) (by exact rfl) (fun w h => Right_ok n v es w hs (ro_old h hr) hm) ?_
  repeat' first
    | refine k_then ?_ | refine c_seq ?_ | refine c_region ?_ | refine s_nil ?_ | refine s_move (by exact rfl) (by exact rfl) ?_ | refine s_assign (by exact rfl) (by exact rfl) ?_ | refine s_fa (by exact rfl) (by exact rfl) ?_ | refine s_ld_box (by exact rfl) (by exact rfl) (by exact .head _) (by exact rfl) ?_ | refine s_neq (by exact rfl) (by exact rfl) (by exact rfl) ?_ | refine s_len (by exact rfl) (by exact rfl) (by assumption) ?_ | refine s_ldk_box (by exact rfl) (by exact rfl) (by exact .head _) (by exact rfl) (by exact rfl) ?_ | refine c_skip ?_ | refine c_ret ?_ | refine k_then_ret ?_ | (refine c_cond_p (by exact rfl) (fun h => ?_) (fun h => ?_) <;> try (exfalso; omega))
  · refine ret1 [] rfl rfl rfl ⟨?_, rfl⟩
    rw [rotK, if_pos h]
  · rename_i h0
    have h1 := h
    refine ret1 [] rfl rfl rfl ⟨?_, rfl⟩
    rw [rotK, if_neg h0, if_pos h1]
  rename_i h0
  have h1 := h
  have hRG := right_iff.1 (Classical.byContradiction h0)
  have hln : ls.length = n.toNat := by have := hRG.lo; omega
  refine o_call (by exact rfl) (by exact rfl) (fun w h => Near_ok n v es w hs (ro_old h hr) hRG) ?_
  rintro vn _ ⟨hn, hnl, rfl⟩
  refine know_row (v := vn) (.head _) fun hvn _ => ?_
  repeat' first
    | refine k_then ?_ | refine s_nil ?_ | refine s_move (by exact rfl) (by exact rfl) ?_ | refine s_len (by exact rfl) (by exact rfl) (by assumption) ?_ | refine c_block ?_
  have hlo := hRG.lo
  have hhi := hRG.hi
  have hAl : ∀ x, (nearS (tn es) x).length ≤ 4194304 := fun x => by
    have h1 := nb_length (tn es) x
    have h2 := hRG.many
    simp only [nearS, List.length_mergeSort]
    simp only [tn, List.length_map] at h1
    simp only [tn]
    omega
  have hrotK : rotK n es ls = if (List.range n.toNat).all (rotB n es ls) then 0 else 12 := by rw [rotK, if_neg h0, if_neg h1]
  rw [hrotK]
  have hBd : ∀ x, rotB n es ls x = decide ((ls.getD x []).mergeSort (fun x y => decide (x ≤ y)) = (nearS (tn es) x).map fun (k : Nat) => (k : Int)) := fun x => rfl
  generalize rotB n es ls = B at *
  generalize nearS (tn es) = A at *
  clear hrotK h1 h h0
  generalize hN : n.toNat = N at *
  have hnN : n = (N : Int) := by omega
  subst hnN
  refine c_loop (fun k : Nat => k ≤ N ∧ ∀ u, u < k → B u = true) (fun k => [(1, vr), (2, .pointer (some ⟨b, 0, none⟩)), (16, vn), (17, .int .i64 (N : Int)), (18, .int .i64 (k : Int))]) (fun _ => [rowHP vn 41 1 N hn, starHP (kids rowN hn ((List.range N).map A))]) (fun k => N - k) 0 [0, 0] ⟨Nat.zero_le _, by omega⟩ rfl ⟨rfl, rfl, rfl, rfl, rfl, trivial⟩ ?_
  rintro k ⟨hk, hq⟩
  by_cases hlt : k < N
  · obtain ⟨hx, hhx⟩ : ∃ x, hr0[k]? = some x := ⟨_, List.getElem?_eq_getElem (by have := hR.len; omega)⟩
    obtain ⟨l, hl⟩ : ∃ l, ls[k]? = some l := ⟨_, List.getElem?_eq_getElem (by omega)⟩
    obtain ⟨hsx, hrx⟩ := hR.kid k hx l hhx hl
    obtain ⟨hy, hhy⟩ : ∃ x, hn[k]? = some x := ⟨_, List.getElem?_eq_getElem (by omega)⟩
    have hAk : ((List.range N).map A)[k]? = some (A k) := by simp [hlt]
    have hlk := hlen l (List.mem_of_getElem? hl)
    have hgd : ls.getD k [] = l := by rw [List.getD_eq_getElem?_getD, hl]; rfl
    have h1' : hr0[k * 1]? = some hx := by rw [Nat.mul_one]; exact hhx
    have h2' : hn[k * 1]? = some hy := by rw [Nat.mul_one]; exact hhy
    repeat' first
      | refine k_then ?_ | refine c_seq ?_ | refine c_region ?_ | refine s_nil ?_ | refine s_move (by exact rfl) (by exact rfl) ?_ | refine s_assign (by exact rfl) (by exact rfl) ?_ | refine s_lss (by exact rfl) (by exact rfl) (by exact rfl) ?_ | refine s_idx (by exact rfl) (by exact rfl) (by exact rfl) (by assumption) (by first | assumption | omega) ?_ | refine s_ld_ro (by exact rfl) (by exact rfl) (by assumption) (by assumption) ?_ | refine s_ld_row (by exact rfl) (by exact rfl) (by exact .head _) (by assumption) ?_ | refine c_block ?_ | refine c_skip ?_ | (refine c_cond_p (by exact rfl) (fun h => ?_) (fun h => ?_) <;> try (exfalso; omega))
    refine o_call (by exact rfl) (by exact rfl) (fun w h => Values_ok hx w hsx.one) ?_
    rintro vf _ ⟨bf, rfl, rfl⟩
    skip
    refine o_call (by exact rfl) (by exact rfl) (fun w h => SortedI_ok _ [.pointer (some ⟨bf, 0, none⟩)] l w hlk fun w' S' Sf hm hS => values1I_ok bf hx l w' S' ((rb_own h (.head _)).fwd hm hS) hsx (RO.fwd (ro_old h hrx) hm hS)) ?_
    rintro vs _ rfl
    have hros : ∀ w1, St w No [rowHP vs 3 1 l.length (iV (l.mergeSort fun x y => decide (x ≤ y))), boxHP bf 41 [hx], rowHP vn 41 1 N hn, starHP (kids rowN hn ((List.range N).map A))] w1 → ROs w1 No vn hn ((List.range N).map A) := fun w1 h => ros_own h (.tail _ (.tail _ (.head _))) (by simp) (.tail _ (.tail _ (.tail _ (.head _))))
    refine know_row (v := vs) (.head _) fun hvs _ => ?_
    repeat' first
      | refine s_move (by exact rfl) (by exact rfl) ?_
    refine s_call (vs := [vs, hy]) (by exact rfl) (by exact rfl) (fun w h => by
      have hk := (hros w h).kid k hy (A k) hhy hAk
      rw [nV_iV] at hk
      exact Equal_ok vs hy (l.mergeSort fun x y => decide (x ≤ y)) ((A k).map fun (k : Nat) => (k : Int)) w (by simpa using hvs) (by simpa using hk.1) (ro_own h (.head _)) hk.2) ?_
    rw [← hgd, ← hBd, hgd]
    cases hB : B k with
    | false =>
      repeat' first
        | refine k_then ?_ | refine c_seq ?_ | refine c_region ?_ | refine s_nil ?_ | refine s_assign (by exact rfl) (by exact rfl) ?_ | refine s_not (by exact rfl) (by exact rfl) ?_ | refine c_ret ?_ | refine k_then_ret ?_ | refine k_blk_ret ?_ | refine c_cond_t (by exact rfl) ?_
      refine ret1 [] rfl rfl rfl ⟨?_, rfl⟩
      rw [if_neg]
      intro hall
      have := List.all_eq_true.1 hall k (List.mem_range.2 hlt)
      rw [hB] at this; simp at this
    | true =>
      repeat' first
        | refine k_then ?_ | refine c_region ?_ | refine s_nil ?_ | refine s_move (by exact rfl) (by exact rfl) ?_ | refine s_add (by exact rfl) (by exact rfl) (by exact rfl) (by omega) ?_ | refine s_not (by exact rfl) (by exact rfl) ?_ | refine c_skip ?_ | refine k_blk ?_ | refine c_cond_f (by exact rfl) ?_
      refine c_round (k + 1) [2, 2] (by exact rfl) (by exact ⟨rfl, rfl, rfl, rfl, rfl, trivial⟩) ⟨by omega, fun u hu => ?_⟩ (by omega)
      by_cases e : u = k
      · rw [e]; exact hB
      · exact hq u (by omega)
  · repeat' first
      | refine k_then ?_ | refine c_seq ?_ | refine c_region ?_ | refine s_nil ?_ | refine s_assign (by exact rfl) (by exact rfl) ?_ | refine s_lss (by exact rfl) (by exact rfl) (by exact rfl) ?_ | refine c_exit ?_ | refine c_ret ?_ | refine k_then_exit ?_ | refine k_blk_eq ?_ | (refine c_cond_p (by exact rfl) (fun h => ?_) (fun h => ?_) <;> try (exfalso; omega))
    refine ret1 [] rfl rfl rfl ⟨?_, rfl⟩
    rw [if_pos]
    rw [List.all_eq_true]
    intro u hu
    exact hq u (by have := List.mem_range.1 hu; omega)
end Go.Proofs.YtpajjnkmaebhcaaGreat
end
section
set_option linter.unusedVariables false
namespace Fil
def nextK (ls : List (List Int)) (u v : Int) : Int × Int × Bool :=
  if v < 0 ∨ (ls.length : Int) ≤ v then (0, 0, false) else
    match (ls.getD v.toNat []).findIdx? fun y => decide (y = u) with
    | none => (0, 0, false)
    | some i => (v, (ls.getD v.toNat []).getD ((i + 1) % (ls.getD v.toNat []).length) 0, true)
end Fil
namespace Go.Proofs.YtpajjnkmaebhcaaGreat
open Go.RowKit Go.Sl Fil
set_option maxRecDepth 100000
set_option maxHeartbeats 8000000
set_option linter.unusedVariables false
set_option linter.unusedSimpArgs false
attribute [local irreducible] Code.wp wpList bodyPost wpQuiet Exit.then Exit.inBlock Post wpAnyH wpOp
def dV (u v : Int) : Value := .agg #[.int .i64 u, .int .i64 v]
def nextV (p : Int × Int × Bool) : Value := .tuple #[dV p.1 p.2.1, .bool p.2.2]
theorem refNext_ok (vr : Value) (hr0 : List Value) (ls : List (List Int)) (u v : Int) (w : World) (hR : ROsI w No vr hr0 ls) :
    Calls Tryz.prog 55 #[vr, dV u v] w (Post w No (Just (nextV (nextK ls u v)))) := by
  have hsr := hR.shp
  have hrr := hR.ro
  have hls := hsr.1
  simp only [maxLen] at hls
  refine enter0 (vs := [_, _]) Tryz.func55 rfl Tryz.ntmps55 rfl ?_
  unfold dV
  repeat' first
    | refine k_then ?_ | refine c_seq ?_ | refine c_region ?_ | refine s_nil ?_ | refine s_move (by exact rfl) (by exact rfl) ?_ | refine s_assign (by exact rfl) (by exact rfl) ?_ | refine s_fa (by exact rfl) (by exact rfl) ?_ | refine s_ld_box (by exact rfl) (by exact rfl) (by exact .tail _ (.head _)) (by exact rfl) ?_ | refine s_lss (by exact rfl) (by exact rfl) (by exact rfl) ?_ | refine s_idxi (by exact rfl) (by exact rfl) (by exact rfl) (by assumption) (by first | assumption | omega) ?_ | refine s_pick_t (by exact rfl) (by exact rfl) (by exact rfl) ?_ | refine s_pick_f (by exact rfl) (by exact rfl) (by exact rfl) ?_ | refine o_box (by exact rfl) (by exact rfl) (fun b => ?_) | refine o_alloc (by exact rfl) (fun b => ?_) | refine c_skip ?_ | (refine c_cond_p (by exact rfl) (fun h => ?_) (fun h => ?_) <;> try (exfalso; omega)) | refine c_cond_t (by exact rfl) ?_ | (refine g_case (by exact rfl) (by exact rfl) (fun h => ?_) (fun h => ?_) <;> try (exfalso; omega)) | refine g_skip (by exact rfl) (by exact rfl) (by exact rfl) (by exact rfl) ?_ | refine w_move (by exact rfl) (by exact rfl) (by exact rfl) (by exact rfl) ?_ | refine w_fa (by exact rfl) (by exact rfl) (by exact rfl) (by exact rfl) ?_ | refine w_ld_box (by exact rfl) (by exact rfl) (by exact rfl) (by exact rfl) (by exact .tail _ (.head _)) (by exact rfl) ?_ | refine w_geq (by exact rfl) (by exact rfl) (by exact rfl) (by exact rfl) (by exact rfl) ?_ | refine w_len (by exact rfl) (by exact rfl) (by exact rfl) (by exact rfl) (by assumption) ?_
  · have hK : nextK ls u v = (0, 0, false) := by rw [nextK, if_pos (.inl h)]
    rw [hK]
    refine o_build (cs := [.int .i64 0, .int .i64 0]) [] (by exact rfl) (by exact rfl) (by simp) (by exact rfl) ?_
    skip
    refine o_stk_box (i := 0) (us := [.int .i64 0, .int .i64 0]) (by exact rfl) (by exact rfl) (by exact rfl) (by exact rfl) (by exact rfl) (by simp [Value.oneCell']) (by simp [Value.cells]) ?_
    repeat' first
      | refine k_then ?_ | refine s_nil ?_ | refine s_assign (by exact rfl) (by exact rfl) ?_ | refine c_ret ?_ | refine k_then_ret ?_
    refine retL [.cell 4 76, .tmp 5] [.agg #[.int .i64 0, .int .i64 0], .bool false] [] rfl ⟨res_cellk (cs := [.int .i64 0, .int .i64 0]) (k := 2) (off := 0) (us := [.int .i64 0, .int .i64 0]) rfl (.head _) rfl rfl, res_tmp rfl, trivial⟩ (by exact rfl) ⟨?_, rfl⟩
    rfl
  · have hK : nextK ls u v = (0, 0, false) := by rw [nextK, if_pos (.inr (by omega))]
    rw [hK]
    refine o_build (cs := [.int .i64 0, .int .i64 0]) [] (by exact rfl) (by exact rfl) (by simp) (by exact rfl) ?_
    skip
    refine o_stk_box (i := 0) (us := [.int .i64 0, .int .i64 0]) (by exact rfl) (by exact rfl) (by exact rfl) (by exact rfl) (by exact rfl) (by simp [Value.oneCell']) (by simp [Value.cells]) ?_
    repeat' first
      | refine k_then ?_ | refine s_nil ?_ | refine s_assign (by exact rfl) (by exact rfl) ?_ | refine c_ret ?_ | refine k_then_ret ?_
    refine retL [.cell 4 76, .tmp 5] [.agg #[.int .i64 0, .int .i64 0], .bool false] [] rfl ⟨res_cellk (cs := [.int .i64 0, .int .i64 0]) (k := 2) (off := 0) (us := [.int .i64 0, .int .i64 0]) rfl (.head _) rfl rfl, res_tmp rfl, trivial⟩ (by exact rfl) ⟨?_, rfl⟩
    rfl
  rename_i b0 h0
  have hvn : v.toNat < ls.length := by omega
  obtain ⟨hx, hhx⟩ : ∃ x, hr0[v.toNat]? = some x := ⟨_, List.getElem?_eq_getElem (by have := hR.len; omega)⟩
  obtain ⟨l, hl⟩ : ∃ l, ls[v.toNat]? = some l := ⟨_, List.getElem?_eq_getElem hvn⟩
  obtain ⟨hsx, hrx⟩ := hR.kid v.toNat hx l hhx hl
  have hgd : ls.getD v.toNat [] = l := by rw [List.getD_eq_getElem?_getD, hl]; rfl
  have h1' : hr0[v.toNat * 1]? = some hx := by rw [Nat.mul_one]; exact hhx
  have hK : nextK ls u v = match l.findIdx? fun y => decide (y = u) with
    | none => (0, 0, false)
    | some i => (v, l.getD ((i + 1) % l.length) 0, true) := by rw [nextK, if_neg (by omega), hgd]
  rw [hK]
  have hm := hsx.1
  simp only [maxLen] at hm
  repeat' first
    | refine k_then ?_ | refine c_seq ?_ | refine c_region ?_ | refine s_nil ?_ | refine s_assign (by exact rfl) (by exact rfl) ?_ | refine s_ld_ro (by exact rfl) (by exact rfl) (by assumption) (by assumption) ?_ | refine c_block ?_
  refine c_loop (fun k : Nat => k ≤ l.length ∧ ∀ y ∈ l.take k, decide (y = u) = false) (fun k => [(3, .pointer (some ⟨b0, 0, none⟩)), (4, .pointer (some ⟨b, 0, none⟩)), (5, .bool false), (6, hx), (7, .int .i64 (k : Int))]) (fun _ => [boxHP b 76 (Value.agg #[.int .i64 0, .int .i64 0]).cells.toList, boxHP b0 76 (Value.agg #[.int .i64 u, .int .i64 v]).cells.toList]) (fun k => l.length - k) 0 [0, 0] ⟨by omega, by simp⟩ rfl ⟨rfl, rfl, rfl, rfl, rfl, trivial⟩ ?_
  rintro i ⟨hk, hq⟩
  by_cases hlt : i < l.length
  · obtain ⟨c, hc⟩ : ∃ c, l[i]? = some c := ⟨_, List.getElem?_eq_getElem hlt⟩
    have h1 : (iV l)[i * 1]? = some (.int .i64 c) := by simp [iV, hc]
    repeat' first
      | refine k_then ?_ | refine c_seq ?_ | refine c_region ?_ | refine s_nil ?_ | refine s_move (by exact rfl) (by exact rfl) ?_ | refine s_lss (by exact rfl) (by exact rfl) (by exact rfl) ?_ | refine s_len (by exact rfl) (by exact rfl) (by assumption) ?_ | refine c_block ?_ | refine c_skip ?_ | (refine c_cond_p (by exact rfl) (fun h => ?_) (fun h => ?_) <;> try (exfalso; omega))
    refine p_begin0 [(0, true), (1, true), (2, true), (3, true), (4, true), (5, true), (6, true)] (by kernel_rfl) ?_
    repeat' first
      | refine p_nil ?_
      | (refine p_at (by exact rfl) ?_
         first
          | refine t_move (by exact rfl) (by exact rfl) (by exact fun _ h => h) ?_ | refine t_fa (by exact rfl) (by exact rfl) (by exact fun _ h => h) ?_ | refine t_ld_box (by exact rfl) (by exact rfl) (by exact .tail _ (.head _)) (by exact rfl) (by exact fun _ h => h) ?_ | refine t_eql (by exact rfl) (by exact rfl) (by exact rfl) (by exact fun _ h => h) ?_ | refine t_idx (by exact rfl) (by exact rfl) (by exact rfl) (by assumption) (by first | assumption | omega) (by exact fun _ h => h) ?_ | refine t_ld_ro (by exact rfl) (by exact rfl) (by assumption) (by assumption) (by exact fun _ h => h) ?_)
    by_cases hcu : c = u
    · have hf : l.findIdx? (fun y => decide (y = u)) = some i := by
        rw [List.findIdx?_eq_some_iff_getElem]
        obtain ⟨h1, h2⟩ := List.getElem?_eq_some_iff.1 hc
        refine ⟨h1, by rw [h2]; exact decide_eq_true hcu, fun j hj => ?_⟩
        rw [hq _ (List.mem_take_iff_getElem.2 ⟨j, by omega, rfl⟩)]
        simp
      rw [hf]
      dsimp only
      repeat' first
        | refine k_then ?_ | refine c_seq ?_ | (refine c_cond_p (by exact rfl) (fun h => ?_) (fun h => ?_) <;> try (exfalso; omega))
      refine p_begin [(0, true), (1, true), (2, true), (3, true), (4, true), (5, true), (6, true), (7, true), (8, true), (9, true), (10, true), (11, false), (12, true)] [boxHP b0 76 (Value.agg #[.int .i64 u, .int .i64 v]).cells.toList] (by kernel_rfl) ?_
      repeat' first
        | (refine p_at (by exact rfl) ?_
           first
            | refine t_move (by exact rfl) (by exact rfl) (by exact fun _ h => h.tl) ?_ | refine t_fa (by exact rfl) (by exact rfl) (by exact fun _ h => h.tl) ?_ | refine t_ld_box (by exact rfl) (by exact rfl) (by exact .head _) (by exact rfl) (by exact fun _ h => h.tl) ?_ | refine t_add (by exact rfl) (by exact rfl) (by exact rfl) (by omega) (by exact fun _ h => h.tl) ?_ | refine t_rem (by exact rfl) (by exact rfl) (by exact rfl) (by omega) (by exact fun _ h => h.tl) ?_ | refine t_len (by exact rfl) (by exact rfl) (by assumption) (by exact fun _ h => h.tl) ?_)
      have hmod : ((i : Int) + 1) % (l.length : Int) = (((i + 1) % l.length : Nat) : Int) := by simp
      have hml : (i + 1) % l.length < l.length := Nat.mod_lt _ (by omega)
      rw [hmod]
      generalize hj : (i + 1) % l.length = j at *
      have h2' := iV_get hml
      repeat' first
        | (refine p_at (by exact rfl) ?_
           first
            | refine t_idx (by exact rfl) (by exact rfl) (by exact rfl) (by assumption) (by first | assumption | omega) (by exact fun _ h => h.tl) ?_ | refine t_ld_ro (by exact rfl) (by exact rfl) (by assumption) (by assumption) (by exact fun _ h => h.tl) ?_)
      refine p_buildt (cs := [.int .i64 v, .int .i64 (l.getD j 0)]) [(0, .int .i64 v, [.int .i64 v]), (1, .int .i64 (l.getD j 0), [.int .i64 (l.getD j 0)])] (by exact rfl) (by exact rfl) (by exact rfl) (by simp [Value.cells]) ?_ (by exact fun _ h => h.tl) ?_
      · exact rfl
      refine p_stk_box (j := 0) (us := [.int .i64 v, .int .i64 (l.getD j 0)]) (by exact rfl) (by exact rfl) (by exact rfl) (by exact rfl) (by exact rfl) (by exact rfl) (by simp [Value.oneCell']) (by simp [Value.cells]) (fun _ h => h.pick [1] (by exact rfl)) ?_
      repeat' first
        | refine p_nil ?_
        | (refine p_at (by exact rfl) ?_
           first
            | refine t_assign (by exact rfl) (by exact rfl) (by exact fun _ h => h.tl) ?_)
      repeat' first
        | refine k_then ?_ | refine c_ret ?_ | refine k_then_ret ?_ | refine k_blk_ret ?_
      refine retL [.cell 4 76, .tmp 5] [.agg #[.int .i64 v, .int .i64 (l.getD j 0)], .bool true] [] rfl ⟨res_cellk (cs := [.int .i64 v, .int .i64 (l.getD j 0)]) (k := 2) (off := 0) (us := [.int .i64 v, .int .i64 (l.getD j 0)]) rfl (.head _) rfl (by simp [Value.cells]), res_tmp rfl, trivial⟩ (by exact rfl) ⟨?_, rfl⟩
      rfl
    · repeat' first
        | refine k_then ?_ | refine c_region ?_ | refine s_nil ?_ | refine s_move (by exact rfl) (by exact rfl) ?_ | refine s_assign (by exact rfl) (by exact rfl) ?_ | refine s_add (by exact rfl) (by exact rfl) (by exact rfl) (by omega) ?_ | refine c_skip ?_ | refine k_blk ?_ | (refine c_cond_p (by exact rfl) (fun h => ?_) (fun h => ?_) <;> try (exfalso; omega))
      refine c_round (i + 1) [0, 0] (by exact rfl) (by exact ⟨rfl, rfl, rfl, rfl, rfl, trivial⟩) ⟨by omega, ?_⟩ (by omega)
      rw [List.take_add_one, hc]
      intro y hy
      rcases List.mem_append.1 hy with hy | hy
      · exact hq y hy
      · obtain rfl : y = c := by simpa using hy
        exact decide_eq_false hcu
  · rw [List.take_of_length_le (by omega)] at hq
    rw [List.findIdx?_eq_none_iff.2 hq]
    dsimp only
    repeat' first
      | refine k_then ?_ | refine c_seq ?_ | refine c_region ?_ | refine s_nil ?_ | refine s_move (by exact rfl) (by exact rfl) ?_ | refine s_lss (by exact rfl) (by exact rfl) (by exact rfl) ?_ | refine s_len (by exact rfl) (by exact rfl) (by assumption) ?_ | refine c_exit ?_ | refine k_then_exit ?_ | refine k_blk_eq ?_ | (refine c_cond_p (by exact rfl) (fun h => ?_) (fun h => ?_) <;> try (exfalso; omega))
    refine o_build (cs := [.int .i64 0, .int .i64 0]) [] (by exact rfl) (by exact rfl) (by simp) (by exact rfl) ?_
    skip
    refine o_stk_box (i := 0) (us := [.int .i64 0, .int .i64 0]) (by exact rfl) (by exact rfl) (by exact rfl) (by exact rfl) (by exact rfl) (by simp [Value.oneCell']) (by simp [Value.cells]) ?_
    repeat' first
      | refine k_then ?_ | refine s_nil ?_ | refine s_assign (by exact rfl) (by exact rfl) ?_ | refine c_ret ?_
    refine retL [.cell 4 76, .tmp 5] [.agg #[.int .i64 0, .int .i64 0], .bool false] [] rfl ⟨res_cellk (cs := [.int .i64 0, .int .i64 0]) (k := 2) (off := 0) (us := [.int .i64 0, .int .i64 0]) rfl (.head _) rfl rfl, res_tmp rfl, trivial⟩ (by exact rfl) ⟨?_, rfl⟩
    rfl
end Go.Proofs.YtpajjnkmaebhcaaGreat
end
section
set_option linter.unusedSimpArgs false
set_option linter.unusedVariables false
namespace Go.Sl
open Go Go.Proofs Go.RowKit Go.Maps
/-- a key of two integers -/
theorem keyOf_two {P : Program} {k e : TypeId} {f g : Field} (hk : P.underlying k = some (.struct #[f, g])) (he : P.underlying e = some (.int .i64)) (hf : f.type = e ∧ f.offset = 0 ∧ f.name ≠ "_") (hg : g.type = e ∧ g.offset = 1 ∧ g.name ≠ "_") (hc : P.cellsOf k = 2) (hce : P.cellsOf e = 1) (hkt : P.keyType k = true) (hsz : ∃ m, P.types.size = m + 1) {a b : Int} (wa : (Lit.int .i64 a).wf = true) (wb : (Lit.int .i64 b).wf = true) :
    keyOf P k (.agg #[.int .i64 a, .int .i64 b]) = some (.string (keyBytes [.int .i64 a, .int .i64 b])) := by
  obtain ⟨m, hm⟩ := hsz
  obtain ⟨f1, f2, f3⟩ := hf
  obtain ⟨g1, g2, g3⟩ := hg
  unfold keyOf
  simp only [hk]
  rw [if_pos (by simp [hkt, Value.formed, hk, hc]), hm]
  unfold Program.keyLits
  simp only [hk, Value.cells]
  rw [if_pos ⟨by rw [hc]; rfl, by simp [f3, g3]⟩]
  simp [f1, f2, g1, g2, hce, Program.keyLits, he, wa, wb]
end Go.Sl
namespace Go.Proofs
open Go Go.RowKit Go.Maps Go.Sl
abbrev okD (d : Nat × Nat) : Prop := d.1 ≤ 9223372036854775807 ∧ d.2 ≤ 9223372036854775807
abbrev ekD (d : Nat × Nat) : Value := .agg #[.int .i64 (d.1 : Int), .int .i64 (d.2 : Int)]
theorem dart_laid : laidOutB Tryz.prog = true := by kernel_rfl
theorem dart_law : WideMaps.KeyLaw Tryz.prog 76 := deep_law_laid dart_laid (m := 3) (by omega) (of_decide_eq_true (by kernel_rfl)) (by kernel_rfl) (by kernel_rfl)
theorem dart_key (d : Nat × Nat) (h : okD d) : ∃ l, keyOf Tryz.prog 76 (ekD d) = some l :=
  ⟨_, keyOf_two (e := 3) Tryz.underlying76 Tryz.underlying3 ⟨rfl, rfl, by decide⟩ ⟨rfl, rfl, by decide⟩ (by kernel_rfl) (by kernel_rfl) (by kernel_rfl) ⟨_, rfl⟩ (wf_i64 ⟨by omega, by have := h.1; omega⟩) (wf_i64 ⟨by omega, by have := h.2; omega⟩)⟩
theorem ekD_inj (a b : Nat × Nat) (h : ekD a = ekD b) : a = b := by
  simp only [ekD, Value.agg.injEq, Array.mk.injEq, List.cons.injEq, Value.int.injEq] at h
  exact Prod.ext (by omega) (by omega)
instance : MapTy Tryz.prog 92 (Nat × Nat) (Nat × Nat) ekD ekD okD (0, 0) 76 where
  e := ⟨76, Tryz.underlying92, fun w => Tryz.zeroValue76 w⟩
  keyed := Keyed.of_law dart_law
  key := dart_key
  inj := ekD_inj
instance : MapTy Tryz.prog 96 (Nat × Nat) Bool ekD Value.bool okD false 76 where
  e := ⟨4, Tryz.underlying96, fun w => Tryz.zeroValue4 w⟩
  keyed := Keyed.of_law dart_law
  key := dart_key
  inj := ekD_inj
end Go.Proofs
end
section
set_option linter.unusedVariables false
namespace Fil
/-- the entries of vertex v -/
def beh (R : List (List Nat)) (v : Nat) : List ((Nat × Nat) × (Nat × Nat)) := (List.range (rf R v).length).map fun i => (((rf R v).getD i 0, v), (v, (rf R v).getD ((i + 1) % (rf R v).length) 0))
def behL (R : List (List Nat)) (k : Nat) : List ((Nat × Nat) × (Nat × Nat)) := (List.range k).flatMap (beh R)
theorem behL_succ (R : List (List Nat)) (k : Nat) : behL R (k + 1) = behL R k ++ beh R k := by simp [behL, List.range_succ]
theorem beh_length (R : List (List Nat)) (v : Nat) : (beh R v).length = (rf R v).length := by simp [beh]
theorem beh_get {R : List (List Nat)} {v i : Nat} (hi : i < (rf R v).length) : (beh R v)[i]? = some (((rf R v).getD i 0, v), (v, (rf R v).getD ((i + 1) % (rf R v).length) 0)) := by rw [beh, List.getElem?_map, List.getElem?_range hi]; rfl
theorem beh_take {R : List (List Nat)} {v i : Nat} (hi : i < (rf R v).length) : (beh R v).take (i + 1) = (beh R v).take i ++ [(((rf R v).getD i 0, v), (v, (rf R v).getD ((i + 1) % (rf R v).length) 0))] := by
  rw [List.take_add_one, beh_get hi]; rfl
theorem beh_new {R : List (List Nat)} {v i : Nat} (hn : (rf R v).Nodup) (hi : i < (rf R v).length) : ((rf R v).getD i 0, v) ∉ (behL R v ++ (beh R v).take i).map Prod.fst := by
  intro h
  rw [List.map_append, List.mem_append] at h
  rcases h with h | h
  · obtain ⟨p, hp, e⟩ := List.mem_map.1 h
    obtain ⟨u, hu, hp⟩ := List.mem_flatMap.1 hp
    obtain ⟨j, hj, rfl⟩ := List.mem_map.1 hp
    have hu := List.mem_range.1 hu
    simp only [Prod.mk.injEq] at e
    omega
  · obtain ⟨p, hp, e⟩ := List.mem_map.1 h
    obtain ⟨j, hj, hp⟩ := List.mem_take_iff_getElem.1 hp
    have hjl : j < (rf R v).length := by rw [beh_length] at hj; omega
    have h1 := beh_get hjl
    rw [List.getElem?_eq_getElem (by rw [beh_length]; omega), hp, Option.some.injEq] at h1
    rw [h1] at e
    simp only [Prod.mk.injEq, and_true] at e
    rw [List.getD_eq_getElem?_getD, List.getD_eq_getElem?_getD, List.getElem?_eq_getElem hjl, List.getElem?_eq_getElem hi] at e
    simp only [Option.getD_some] at e
    have h2 := congrArg (rf R v).idxOf e
    rw [hn.idxOf_getElem, hn.idxOf_getElem] at h2
    have : j < i := by rw [beh_length] at hj; omega
    omega
theorem behL_nodup {R : List (List Nat)} (hn : ∀ v, (rf R v).Nodup) : ∀ k, ((behL R k).map Prod.fst).Nodup
  | 0 => by simp [behL]
  | k + 1 => by
    have key : ∀ i, i ≤ (rf R k).length → ((behL R k ++ (beh R k).take i).map Prod.fst).Nodup := by
      intro i
      induction i with
      | zero => intro _; simpa using behL_nodup hn k
      | succ i ih =>
        intro hi
        have h1 := ih (by omega)
        have h2 := beh_new (hn k) (show i < (rf R k).length by omega)
        rw [beh_take (by omega), ← List.append_assoc, List.map_append, List.nodup_append]
        refine ⟨h1, by simp, fun a ha b hb e => ?_⟩
        obtain rfl : b = ((rf R k).getD i 0, k) := by simpa using hb
        exact h2 (e ▸ ha)
    have h := key _ (Nat.le_refl _)
    rwa [List.take_of_length_le (by rw [beh_length]; exact Nat.le_refl _), ← behL_succ] at h
theorem beh_look {R : List (List Nat)} (hn : ∀ v, (rf R v).Nodup) {k : Nat} {d : Nat × Nat} (hk : d.2 < k) (hd : d.1 ∈ rf R d.2) : (d, nxt (rf R) d) ∈ behL R k := by
  obtain ⟨i, hi, e⟩ := List.getElem_of_mem hd
  refine List.mem_flatMap.2 ⟨d.2, List.mem_range.2 hk, List.mem_map.2 ⟨i, List.mem_range.2 hi, ?_⟩⟩
  have e1 : (rf R d.2).getD i 0 = d.1 := by rw [List.getD_eq_getElem?_getD, List.getElem?_eq_getElem hi, Option.getD_some, e]
  have e2 : cyc (rf R d.2) d.1 = (rf R d.2).getD ((i + 1) % (rf R d.2).length) 0 := by rw [cyc, ← e, (hn d.2).idxOf_getElem]
  rw [e1, nxt, e2]
end Fil
namespace Go.Proofs.YtpajjnkmaebhcaaGreat
open Go.RowKit Go.Sl Fil
set_option maxRecDepth 100000
set_option maxHeartbeats 8000000
set_option linter.unusedVariables false
set_option linter.unusedSimpArgs false
attribute [local irreducible] Code.wp wpList bodyPost wpQuiet Exit.then Exit.inBlock Post wpAnyH wpOp
theorem behind_ok (vr : Value) (hr0 : List Value) (R : List (List Nat)) (w : World) (hR : ROs w No vr hr0 R) (hn : ∀ v, (rf R v).Nodup) (hlt : ∀ v, ∀ u ∈ rf R v, u ≤ 1048576) (hN : R.length ≤ 1048576) (hl : ∀ v, (rf R v).length ≤ 1048576) :
    Calls Tryz.prog 57 #[vr] w (Post w No fun r L' => L' = [mapHP ekD ekD okD r (behL R R.length)]) := by
  have hsr := hR.shp
  have hrr := hR.ro
  refine enter0 (vs := [_]) Tryz.func57 rfl Tryz.ntmps57 rfl ?_
  repeat' first
    | refine k_then ?_ | refine c_seq ?_ | refine c_region ?_ | refine s_nil ?_ | refine s_assign (by exact rfl) (by exact rfl) ?_
  refine o_makeMap (by exact rfl) fun b => ?_
  repeat' first
    | refine k_then ?_ | refine c_seq ?_ | refine c_region ?_ | refine s_nil ?_ | refine s_move (by exact rfl) (by exact rfl) ?_ | refine s_assign (by exact rfl) (by exact rfl) ?_ | refine s_len (by exact rfl) (by exact rfl) (by assumption) ?_ | refine c_block ?_
  refine c_loop (fun k : Nat => k ≤ R.length) (fun k => [(3, .map (some b)), (9, vr), (10, .int .i64 (R.length : Int)), (11, .int .i64 (k : Int))]) (fun k => [mapHP ekD ekD okD (.map (some b)) (behL R k)]) (fun k => R.length - k) 0 [0] (Nat.zero_le _) rfl ⟨rfl, rfl, rfl, rfl, trivial⟩ ?_
  rintro k hk
  by_cases hlt1 : k < R.length
  · obtain ⟨hx, hhx⟩ : ∃ x, hr0[k]? = some x := ⟨_, List.getElem?_eq_getElem (by have := hR.len; omega)⟩
    obtain ⟨l, hl1⟩ : ∃ l, R[k]? = some l := ⟨_, List.getElem?_eq_getElem hlt1⟩
    obtain ⟨hsx, hrx⟩ := hR.kid k hx l hhx hl1
    have hgd : rf R k = l := by rw [rf, List.getD_eq_getElem?_getD, hl1]; rfl
    have h1' : hr0[k * 1]? = some hx := by rw [Nat.mul_one]; exact hhx
    have hll := hl k
    rw [hgd] at hll
    repeat' first
      | refine k_then ?_ | refine c_seq ?_ | refine c_region ?_ | refine s_nil ?_ | refine s_move (by exact rfl) (by exact rfl) ?_ | refine s_assign (by exact rfl) (by exact rfl) ?_ | refine s_lss (by exact rfl) (by exact rfl) (by exact rfl) ?_ | refine s_len (by exact rfl) (by exact rfl) (by assumption) ?_ | refine s_idx (by exact rfl) (by exact rfl) (by exact rfl) (by assumption) (by first | assumption | omega) ?_ | refine s_ld_ro (by exact rfl) (by exact rfl) (by assumption) (by assumption) ?_ | refine c_block ?_ | refine c_skip ?_ | (refine c_cond_p (by exact rfl) (fun h => ?_) (fun h => ?_) <;> try (exfalso; omega))
    refine c_loop (fun i : Nat => i ≤ l.length) (fun i => [(3, .map (some b)), (9, vr), (10, .int .i64 (R.length : Int)), (11, .int .i64 (k : Int)), (4, .int .i64 (k : Int)), (5, hx), (16, hx), (17, .int .i64 (l.length : Int)), (18, .int .i64 (i : Int))]) (fun i => [mapHP ekD ekD okD (.map (some b)) (behL R k ++ (beh R k).take i)]) (fun i => l.length - i) 0 [0] (Nat.zero_le _) (by simp [pick]) ⟨rfl, rfl, rfl, rfl, rfl, rfl, rfl, rfl, rfl, trivial⟩ ?_
    rintro i hi
    by_cases hlt2 : i < l.length
    · have h2' := nV_get hlt2
      have hml : (i + 1) % l.length < l.length := Nat.mod_lt _ (by omega)
      have h3' := nV_get hml
      have hmod : ((i : Int) + 1) % (l.length : Int) = (((i + 1) % l.length : Nat) : Int) := by simp
      repeat' first
        | refine k_then ?_ | refine c_seq ?_ | refine c_region ?_ | refine s_nil ?_ | refine s_move (by exact rfl) (by exact rfl) ?_ | refine s_assign (by exact rfl) (by exact rfl) ?_ | refine s_lss (by exact rfl) (by exact rfl) (by exact rfl) ?_ | refine s_idx (by exact rfl) (by exact rfl) (by exact rfl) (by assumption) (by first | assumption | omega) ?_ | refine s_ld_ro (by exact rfl) (by exact rfl) (by assumption) (by assumption) ?_ | refine c_block ?_ | refine c_skip ?_ | (refine c_cond_p (by exact rfl) (fun h => ?_) (fun h => ?_) <;> try (exfalso; omega))
      have hgi : (rf R k).getD i 0 = l.getD i 0 := by rw [hgd]
      have hu1 : l.getD i 0 ≤ 1048576 := by
        rw [List.getD_eq_getElem?_getD, List.getElem?_eq_getElem hlt2, Option.getD_some]
        exact hlt k _ (by rw [hgd]; exact List.getElem_mem _)
      refine o_build (cs := [.int .i64 (l.getD i 0 : Nat), .int .i64 (k : Int)]) [(0, .int .i64 (l.getD i 0 : Nat), [.int .i64 (l.getD i 0 : Nat)]), (1, .int .i64 (k : Int), [.int .i64 (k : Int)])] (by exact rfl) (by exact rfl) (by simp [Value.cells]) (by exact rfl) ?_
      repeat' first
        | refine s_move (by exact rfl) (by exact rfl) ?_ | refine s_add (by exact rfl) (by exact rfl) (by exact rfl) (by omega) ?_ | refine s_rem (by exact rfl) (by exact rfl) (by exact rfl) (by omega) ?_ | refine s_len (by exact rfl) (by exact rfl) (by assumption) ?_ | refine s_idx (by exact rfl) (by exact rfl) (by exact rfl) (by assumption) (by first | assumption | omega) ?_ | refine s_ld_ro (by exact rfl) (by exact rfl) (by assumption) (by assumption) ?_
      rw [hmod]
      skip
      refine o_build (cs := [.int .i64 (k : Int), .int .i64 (l.getD ((i + 1) % l.length) 0 : Nat)]) [(0, .int .i64 (k : Int), [.int .i64 (k : Int)]), (1, .int .i64 (l.getD ((i + 1) % l.length) 0 : Nat), [.int .i64 (l.getD ((i + 1) % l.length) 0 : Nat)])] (by exact rfl) (by exact rfl) (by simp [Value.cells]) (by exact rfl) ?_
      skip
      refine o_mapup (ek := ekD) (ev := ekD) (ok := okD) (i := 0) (l.getD i 0, k) (k, l.getD ((i + 1) % l.length) 0) (by exact rfl) (by exact rfl) (by exact rfl) (by exact rfl) rfl rfl ⟨by dsimp only; omega, by dsimp only; omega⟩ ?_
      have hput : putK (behL R k ++ (beh R k).take i) (l.getD i 0, k) (k, l.getD ((i + 1) % l.length) 0) = behL R k ++ (beh R k).take (i + 1) := by
        have h1 := beh_new (hn k) (by rw [hgd]; exact hlt2)
        have h2 := beh_take (R := R) (v := k) (i := i) (by rw [hgd]; exact hlt2)
        rw [hgd] at h1 h2
        rw [putK_new h1, h2, List.append_assoc]
      rw [hput]
      repeat' first
        | refine k_then ?_ | refine c_region ?_ | refine s_nil ?_ | refine s_move (by exact rfl) (by exact rfl) ?_ | refine s_add (by exact rfl) (by exact rfl) (by exact rfl) (by omega) ?_ | refine k_blk ?_
      refine c_round (i + 1) [0] (by exact rfl) (by exact ⟨rfl, rfl, rfl, rfl, rfl, rfl, rfl, rfl, rfl, trivial⟩) (by omega) (by omega)
    · repeat' first
        | refine k_then ?_ | refine c_seq ?_ | refine c_region ?_ | refine s_nil ?_ | refine s_move (by exact rfl) (by exact rfl) ?_ | refine s_lss (by exact rfl) (by exact rfl) (by exact rfl) ?_ | refine s_add (by exact rfl) (by exact rfl) (by exact rfl) (by omega) ?_ | refine c_exit ?_ | refine k_then_exit ?_ | refine k_blk ?_ | refine k_blk_eq ?_ | (refine c_cond_p (by exact rfl) (fun h => ?_) (fun h => ?_) <;> try (exfalso; omega))
      obtain rfl : i = l.length := by omega
      rw [List.take_of_length_le (by rw [beh_length, hgd]; exact Nat.le_refl _), ← behL_succ]
      refine c_round (k + 1) [0] (by exact rfl) (by exact ⟨rfl, rfl, rfl, rfl, trivial⟩) (by omega) (by omega)
  · repeat' first
      | refine k_then ?_ | refine c_seq ?_ | refine c_region ?_ | refine s_nil ?_ | refine s_move (by exact rfl) (by exact rfl) ?_ | refine s_assign (by exact rfl) (by exact rfl) ?_ | refine s_lss (by exact rfl) (by exact rfl) (by exact rfl) ?_ | refine c_exit ?_ | refine c_ret ?_ | refine k_then_exit ?_ | refine k_blk_eq ?_ | (refine c_cond_p (by exact rfl) (fun h => ?_) (fun h => ?_) <;> try (exfalso; omega))
    obtain rfl : k = R.length := by omega
    refine ret1 [0] rfl rfl rfl rfl
end Go.Proofs.YtpajjnkmaebhcaaGreat
end
section
set_option linter.unusedVariables false
namespace Fil
def cmpD (a b : Nat × Nat) : Int := if cmpK (a.1 : Int) (b.1 : Int) = 0 then cmpK (a.2 : Int) (b.2 : Int) else cmpK (a.1 : Int) (b.1 : Int)
end Fil
namespace Go.Proofs.YtpajjnkmaebhcaaGreat
open Go.RowKit Go.Sl Fil
set_option maxRecDepth 100000
set_option maxHeartbeats 8000000
set_option linter.unusedVariables false
set_option linter.unusedSimpArgs false
attribute [local irreducible] Code.wp wpList bodyPost wpQuiet Exit.then Exit.inBlock Post wpAnyH wpOp
theorem dartOrder_ok (a b : Nat × Nat) (w : World) : Calls Tryz.prog 59 #[ekD a, ekD b] w (Post w No (Just (.int .i64 (cmpD a b)))) := by
  refine enter0 (vs := [_, _]) Tryz.func59 rfl Tryz.ntmps59 rfl ?_
  repeat' first
    | refine k_then ?_ | refine c_seq ?_ | refine c_region ?_ | refine s_nil ?_ | refine s_assign (by exact rfl) (by exact rfl) ?_ | refine o_box (by exact rfl) (by exact rfl) (fun b => ?_)
  refine p_begin0 [(0, true), (1, true), (2, true), (3, true), (5, true), (6, true), (7, true), (8, true), (4, false), (9, false), (10, false), (11, false), (12, true)] (by kernel_rfl) ?_
  repeat' first
    | (refine p_at (by exact rfl) ?_
       first
        | refine t_fa (by exact rfl) (by exact rfl) (by exact fun _ h => h) ?_ | refine t_ld_box (by exact rfl) (by exact rfl) (by first | exact .head _ | exact .tail _ (.head _)) (by exact rfl) (by exact fun _ h => h) ?_)
  refine p_call (gd := none) (by exact rfl) rfl (by exact rfl) (fun w hs => Compare_ok _ _ w) (by exact fun _ h => h) ?_
  refine p_call (gd := none) (by exact rfl) rfl (by exact rfl) (fun w hs => Compare_ok _ _ w) (by exact fun _ h => h) ?_
  refine p_mk [_, _] (by exact rfl) rfl (by exact rfl) rfl ?_ ?_ (by simp) (fun w A h => h.tl) (fun s hs => ?_)
  · simp [Value.cells]
  · simp
  refine p_call (gd := none) (by exact rfl) rfl (by exact rfl) (fun w h => Or_ok s _ _ w (ro_own h (.head _)) hs) (by exact fun _ h => h.tl) ?_
  repeat' first
    | refine p_nil ?_
    | (refine p_at (by exact rfl) ?_
       first
        | refine t_assign (by exact rfl) (by exact rfl) (by exact fun _ h => h.tl) ?_)
  repeat' first
    | refine k_then ?_ | refine c_ret ?_
  refine ret1 [] rfl rfl rfl ⟨?_, rfl⟩
  simp [cmpD]
end Go.Proofs.YtpajjnkmaebhcaaGreat
end
section
set_option linter.unusedVariables false
set_option linter.unusedSectionVars false
namespace Fil
def leD (a b : Nat × Nat) : Bool := decide (a.1 < b.1 ∨ a.1 = b.1 ∧ a.2 ≤ b.2)
theorem leD_anti {a b : Nat × Nat} (h1 : leD a b = true) (h2 : leD b a = true) : a = b := by
  have h1 := of_decide_eq_true h1
  have h2 := of_decide_eq_true h2
  exact Prod.ext (by omega) (by omega)
theorem leD_sort (l : List (Nat × Nat)) : (l.mergeSort leD).Pairwise fun a b => leD a b = true :=
  List.pairwise_mergeSort (fun a b c h1 h2 => by
    have h1 := of_decide_eq_true h1
    have h2 := of_decide_eq_true h2
    exact decide_eq_true (by omega)) (fun a b => by
    unfold leD
    by_cases h : a.1 < b.1 ∨ a.1 = b.1 ∧ a.2 ≤ b.2
    · rw [decide_eq_true h, Bool.true_or]
    · rw [decide_eq_false h, Bool.false_or]
      exact decide_eq_true (by omega)) l
/-- the two darts of each edge -/
def dartsE (l : List (Nat × Nat)) : List (Nat × Nat) := l.flatMap fun e => [(e.1, e.2), (e.2, e.1)]
theorem dartsE_snoc (l : List (Nat × Nat)) (e : Nat × Nat) : dartsE (l ++ [e]) = dartsE l ++ [(e.1, e.2), (e.2, e.1)] := by simp [dartsE]
theorem dartsE_length : ∀ (l : List (Nat × Nat)), (dartsE l).length = 2 * l.length
  | [] => rfl
  | e :: l => by
    have := dartsE_length l
    simp only [dartsE, List.flatMap_cons, List.length_append, List.length_cons, List.length_nil] at this ⊢
    omega
theorem mem_dartsE {l : List (Nat × Nat)} {d : Nat × Nat} : d ∈ dartsE l ↔ d ∈ l ∨ (d.2, d.1) ∈ l := by
  rw [dartsE, List.mem_flatMap]
  constructor
  · rintro ⟨e, he, hd⟩
    simp only [List.mem_cons, List.not_mem_nil, or_false] at hd
    rcases hd with rfl | rfl
    · exact .inl he
    · exact .inr he
  · rintro (h | h)
    · exact ⟨d, h, by simp⟩
    · exact ⟨_, h, by simp⟩
theorem dartsE_nodup : ∀ {l : List (Nat × Nat)}, l.Nodup → (∀ e ∈ l, e.1 < e.2) → (dartsE l).Nodup
  | [], _, _ => by simp [dartsE]
  | e :: l, hn, hl => by
    rw [List.nodup_cons] at hn
    have ih := dartsE_nodup hn.2 fun f hf => hl f (.tail _ hf)
    have h1 := hl e (.head _)
    show ([(e.1, e.2), (e.2, e.1)] ++ dartsE l).Nodup
    refine List.nodup_append.2 ⟨by simp; omega, ih, fun a ha b hb h => ?_⟩
    subst h
    simp only [List.mem_cons, List.not_mem_nil, or_false] at ha
    rcases mem_dartsE.1 hb with hb | hb
    · rcases ha with rfl | rfl
      · exact hn.1 hb
      · have := hl _ (.tail _ hb); simp at this; omega
    · rcases ha with rfl | rfl
      · have := hl _ (.tail _ hb); simp at this; omega
      · exact hn.1 hb
variable {n : Int} {es : List E} {R : List (List Nat)} {o lab : Nat → Nat}
theorem nearS_sort (l : List (Nat × Nat)) (v : Nat) : (nearS l v).Pairwise fun a b => a ≤ b :=
  (List.pairwise_mergeSort (fun a b c h1 h2 => by simp at *; omega) (fun a b => by simp; omega) (nb l v)).imp fun h => by simpa using h
theorem dartsAll_sort (N : Nat) (l : List (Nat × Nat)) : (dartsAll N l).Pairwise fun a b => leD a b = true := by
  rw [dartsAll, dartsOf, List.pairwise_flatMap]
  refine ⟨fun v _ => ?_, List.pairwise_lt_range.imp fun {a b} h x hx y hy => ?_⟩
  · rw [vc, List.pairwise_map]
    exact (nearS_sort l v).imp fun h => decide_eq_true (.inr ⟨rfl, h⟩)
  · have h1 := (mem_vc.1 hx).1
    have h2 := (mem_vc.1 hy).1
    exact decide_eq_true (.inl (by omega))
theorem mem_dartsAll (hR : RightG n es) {d : Nat × Nat} : d ∈ dartsAll n.toNat (tn es) ↔ d ∈ tn es ∨ (d.2, d.1) ∈ tn es := by
  rw [← (darts_all hR (near_rot hR)).mem_iff, mem_darts, ((near_rot hR).sys hR).ed, List.mem_range]
  refine ⟨fun h => h.2, fun h => ⟨?_, h⟩⟩
  have hG := hR.good
  rcases h with h | h
  · have := hG.lt _ h; omega
  · have := hG.lt _ h; simp at this; omega
theorem dartsAll_nodup (hR : RightG n es) : (dartsAll n.toNat (tn es)).Nodup :=
  (darts_all hR (near_rot hR)).nodup_iff.1 (darts_nodup ((near_rot hR).sys hR) List.nodup_range)
theorem darts_sorted (hR : RightG n es) : (dartsE (tn es)).mergeSort leD = dartsAll n.toNat (tn es) := by
  have hp : (dartsE (tn es)).Perm (dartsAll n.toNat (tn es)) := perm_of_nodup (dartsE_nodup (tn_nodup hR) fun e he => (hR.good.lt e he).1) (dartsAll_nodup hR) fun d => by rw [mem_dartsE, mem_dartsAll hR]
  exact ((List.mergeSort_perm _ _).trans hp).eq_of_pairwise (fun a b _ _ h1 h2 => leD_anti h1 h2) (leD_sort _) (dartsAll_sort _ _)
theorem dartsAll_length (hR : RightG n es) : (dartsAll n.toNat (tn es)).length = 2 * es.length := by
  rw [← darts_sorted hR, List.length_mergeSort, dartsE_length, tn, List.length_map]
theorem dart_in (hR : RightG n es) (h : RotL n.toNat (tn es) R) {d : Nat × Nat} : d ∈ dartsAll n.toNat (tn es) ↔ d.2 ∈ rf R d.1 := by
  rw [mem_dartsAll hR, (h.sys hR).ed]
theorem dart_lt (hR : RightG n es) {d : Nat × Nat} (hd : d ∈ dartsAll n.toNat (tn es)) : d.1 < n.toNat ∧ d.2 < n.toNat := by
  have hG := hR.good
  rcases (mem_dartsAll hR).1 hd with h | h
  · have := hG.lt _ h; omega
  · have := hG.lt _ h; simp at this; omega
theorem all_inj (hR : RightG n es) (h : RotL n.toNat (tn es) R) : ∀ a ∈ dartsAll n.toNat (tn es), ∀ b ∈ dartsAll n.toNat (tn es), nxt (rf R) a = nxt (rf R) b → a = b := fun a ha b hb e =>
  nxt_inj (h.sys hR) a ((darts_all hR h).mem_iff.2 ha) b ((darts_all hR h).mem_iff.2 hb) e
theorem all_mem (hR : RightG n es) (h : RotL n.toNat (tn es) R) : ∀ a ∈ dartsAll n.toNat (tn es), nxt (rf R) a ∈ dartsAll n.toNat (tn es) := fun a ha =>
  (darts_all hR h).mem_iff.1 (nxt_mem (h.sys hR) (fun v _ u hu => List.mem_range.2 (h.lt hR hu).1) a ((darts_all hR h).mem_iff.2 ha))
/-- all faces -/
def facesR (N : Nat) (l : List (Nat × Nat)) (R : List (List Nat)) : List (List (Nat × Nat)) := facesL (nxt (rf R)) (2 * l.length + 1) (dartsAll N l)
theorem tn_len (es : List E) : (tn es).length = es.length := by rw [tn, List.length_map]
theorem facesR_dec (hR : RightG n es) (h : RotL n.toNat (tn es) R) : Dec (nxt (rf R)) (dartsAll n.toNat (tn es)) (facesR n.toNat (tn es) R) :=
  faces_dec (dartsAll_nodup hR) (all_inj hR h) (all_mem hR h) (by rw [dartsAll_length hR, tn_len]; omega)
theorem tr_of {α : Type} [DecidableEq α] {F : α → α} {d : α} : ∀ {l : List α} {x : α} {n : Nat}, st F l x d → l ≠ [] → d ∉ l.tail → l.length ≤ n → tr F d n x = l
  | [], _, _, _, h, _, _ => absurd rfl h
  | a :: l, x, 0, _, _, _, h => by simp at h
  | a :: l, x, n + 1, ⟨e, h⟩, _, hd, hn => by
    subst e
    cases l with
    | nil =>
      have : F x = d := h
      rw [tr, if_pos this]
    | cons b l =>
      have hb : F x = b := h.1
      have hd' : d ∉ b :: l := hd
      rw [tr, if_neg fun e => hd' (by rw [← e, hb]; exact .head _)]
      exact congrArg _ (tr_of h (by simp) (fun h => hd' (.tail _ h)) (by simpa using hn))
theorem InF.tr {α : Type} [DecidableEq α] {F : α → α} {ds : List α} {out : List (List α)} {d : α} {f : List α} (h : InF F ds out d f d) (hf : f ≠ []) {n : Nat} (hn : f.length ≤ n) : tr F d n d = f := by
  refine tr_of h.st hf (fun hd => ?_) hn
  cases f with
  | nil => exact absurd rfl hf
  | cons a f =>
    have e : d = a := h.st.1
    have := (List.nodup_cons.1 h.nd).1
    exact this (e ▸ hd)
theorem near_filter (hR : RightG n es) (h : RotL n.toNat (tn es) R) (u : Nat) : (List.range n.toNat).filter (fun v => decide (v ∈ rf R u)) = nearS (tn es) u := by
  refine (perm_of_nodup (m := nearS (tn es) u) (List.nodup_range.sublist List.filter_sublist) ((List.mergeSort_perm _ _).nodup_iff.2 (nb_nd hR.good (tn_nodup hR) u)) fun a => ?_).eq_of_pairwise (fun a b _ _ h1 h2 => Nat.le_antisymm h1 h2) ((List.pairwise_lt_range.sublist List.filter_sublist).imp fun h => Nat.le_of_lt h) (nearS_sort _ _)
  rw [List.mem_filter, mem_nearS, ← h.mem hR, List.mem_range, decide_eq_true_iff]
  exact ⟨fun h => h.2, fun h' => ⟨(h.lt hR h').1, h'⟩⟩
end Fil
end
section
set_option linter.unusedVariables false
namespace Go.Proofs
open Go.Shelf
def Tryz.sortDarts_ren : Go.Shelf.Ren := ⟨fun | 6 => 58 | 15 => 50 | 14 => 84 | 28 => 69 | 29 => 70 | 20 => 95 | 21 => 96 | 22 => 97 | 23 => 98 | 24 => 99 | 25 => 100 | 26 => 101 | 27 => 102 | 46 => 106 | 47 => 86 | 48 => 87 | 49 => 107 | 50 => 108 | 57 => 109 | n => n, fun | 22 => 77 | 24 => 76 | 25 => 95 | 3 => 3 | 39 => 85 | 0 => 0 | 53 => 107 | 55 => 109 | 4 => 4 | 46 => 99 | 45 => 98 | 50 => 104 | 5 => 5 | 9 => 9 | 66 => 120 | 70 => 124 | 76 => 133 | 77 => 134 | n => n, fun | n => n⟩
theorem Tryz.sortDarts : Go.Proofs.SlLaysF0.n6 Tryz.prog Tryz.sortDarts_ren := {
  mixed := by kernel_rfl
  f6 := ⟨Tryz.f58.name, by decide, Tryz.func58.trans (congrArg some (by kernel_rfl))⟩
  f14 := ⟨Tryz.f84.name, by decide, Tryz.func84.trans (congrArg some (by kernel_rfl))⟩
  f15 := Tryz.func50.trans (congrArg some (by kernel_rfl))
  f20 := ⟨Tryz.f95.name, by decide, Tryz.func95.trans (congrArg some (by kernel_rfl))⟩
  f21 := ⟨Tryz.f96.name, by decide, Tryz.func96.trans (congrArg some (by kernel_rfl))⟩
  f22 := ⟨Tryz.f97.name, by decide, Tryz.func97.trans (congrArg some (by kernel_rfl))⟩
  f23 := ⟨Tryz.f98.name, by decide, Tryz.func98.trans (congrArg some (by kernel_rfl))⟩
  f24 := ⟨Tryz.f99.name, by decide, Tryz.func99.trans (congrArg some (by kernel_rfl))⟩
  f25 := ⟨Tryz.f100.name, by decide, Tryz.func100.trans (congrArg some (by kernel_rfl))⟩
  f26 := ⟨Tryz.f101.name, by decide, Tryz.func101.trans (congrArg some (by kernel_rfl))⟩
  f27 := ⟨Tryz.f102.name, by decide, Tryz.func102.trans (congrArg some (by kernel_rfl))⟩
  f28 := Tryz.func69.trans (congrArg some (by kernel_rfl))
  f29 := Tryz.func70.trans (congrArg some (by kernel_rfl))
  f46 := ⟨Tryz.f106.name, by decide, Tryz.func106.trans (congrArg some (by kernel_rfl))⟩
  f47 := Tryz.func86.trans (congrArg some (by kernel_rfl))
  f48 := Tryz.func87.trans (congrArg some (by kernel_rfl))
  f49 := ⟨Tryz.f107.name, by decide, Tryz.func107.trans (congrArg some (by kernel_rfl))⟩
  f50 := ⟨Tryz.f108.name, by decide, Tryz.func108.trans (congrArg some (by kernel_rfl))⟩
  f57 := ⟨Tryz.f109.name, by decide, Tryz.func109.trans (congrArg some (by kernel_rfl))⟩
  t0 := Tryz.underlying0
  a0 := Tryz.isAgg0
  z0 := Tryz.sizeOf0
  v0 := Tryz.zeroValue0
  t3 := Tryz.underlying3
  a3 := Tryz.isAgg3
  z3 := Tryz.sizeOf3
  v3 := Tryz.zeroValue3
  t4 := Tryz.underlying4
  a4 := Tryz.isAgg4
  z4 := Tryz.sizeOf4
  v4 := Tryz.zeroValue4
  t5 := Tryz.underlying5
  a5 := Tryz.isAgg5
  z5 := Tryz.sizeOf5
  v5 := Tryz.zeroValue5
  t9 := Tryz.underlying9
  a9 := Tryz.isAgg9
  z9 := Tryz.sizeOf9
  v9 := Tryz.zeroValue9
  t22 := Tryz.underlying77
  a22 := Tryz.isAgg77
  z22 := Tryz.sizeOf77
  v22 := Tryz.zeroValue77
  t25 := Tryz.underlying95
  a25 := Tryz.isAgg95
  z25 := Tryz.sizeOf95
  v25 := Tryz.zeroValue95
  t39 := Tryz.underlying85
  a39 := Tryz.isAgg85
  z39 := Tryz.sizeOf85
  v39 := Tryz.zeroValue85
  t45 := Tryz.underlying98
  a45 := Tryz.isAgg98
  z45 := Tryz.sizeOf98
  v45 := Tryz.zeroValue98
  t46 := Tryz.underlying99
  a46 := Tryz.isAgg99
  z46 := Tryz.sizeOf99
  v46 := Tryz.zeroValue99
  t50 := Tryz.underlying104
  a50 := Tryz.isAgg104
  z50 := Tryz.sizeOf104
  v50 := Tryz.zeroValue104
  t53 := Tryz.underlying107
  a53 := Tryz.isAgg107
  z53 := Tryz.sizeOf107
  v53 := Tryz.zeroValue107
  t55 := Tryz.underlying109
  a55 := Tryz.isAgg109
  z55 := Tryz.sizeOf109
  v55 := Tryz.zeroValue109
  t66 := Tryz.underlying120
  a66 := Tryz.isAgg120
  z66 := Tryz.sizeOf120
  v66 := Tryz.zeroValue120
  t70 := Tryz.underlying124
  a70 := Tryz.isAgg124
  z70 := Tryz.sizeOf124
  v70 := Tryz.zeroValue124
  t76 := Tryz.underlying133
  a76 := Tryz.isAgg133
  z76 := Tryz.sizeOf133
  v76 := Tryz.zeroValue133
  t77 := Tryz.underlying134
  a77 := Tryz.isAgg134
  z77 := Tryz.sizeOf134
  v77 := Tryz.zeroValue134 }
end Go.Proofs
namespace Go.Sl
open Go Go.RowKit Go.Sort Go.Proofs Fil
def encD (d : Nat × Nat) : List Value := [.int .i64 (d.1 : Int), .int .i64 (d.2 : Int)]
def dsV (l : List (Nat × Nat)) : List Value := l.flatMap encD
theorem dsV_length : ∀ (l : List (Nat × Nat)), (dsV l).length = l.length * 2
  | [] => rfl
  | a :: l => by
    have := dsV_length l
    simp only [dsV, List.flatMap_cons, List.length_append, List.length_cons, encD, List.length_nil] at this ⊢
    omega
theorem dsV_get : ∀ {l : List (Nat × Nat)} {i : Nat} {d : Nat × Nat}, l[i]? = some d → (dsV l)[i * 2]? = some (.int .i64 (d.1 : Int)) ∧ (dsV l)[i * 2 + 1]? = some (.int .i64 (d.2 : Int))
  | a :: l, 0, d, h => by
    obtain rfl : a = d := by simpa using h
    exact ⟨rfl, rfl⟩
  | a :: l, i + 1, d, h => by
    have := dsV_get (l := l) (i := i) (by simpa using h)
    have e : dsV (a :: l) = .int .i64 (a.1 : Int) :: .int .i64 (a.2 : Int) :: dsV l := rfl
    rw [e, show (i + 1) * 2 = i * 2 + 1 + 1 by omega, List.getElem?_cons_succ, List.getElem?_cons_succ, show i * 2 + 1 + 1 + 1 = (i * 2 + 1) + 1 + 1 by omega, List.getElem?_cons_succ, List.getElem?_cons_succ]
    exact this
theorem dsV_one (l : List (Nat × Nat)) : ∀ u ∈ dsV l, u.oneCell' = true := fun u hu => by
  obtain ⟨d, _, hu⟩ := List.mem_flatMap.1 hu
  simp only [encD, List.mem_cons, List.not_mem_nil, or_false] at hu
  rcases hu with rfl | rfl <;> rfl
theorem flat_dsV (l : List (Nat × Nat)) : (flatK encD 2 l.toArray).toList = dsV l := by
  apply List.ext_getElem?
  intro j
  by_cases hj : j < l.length * 2
  · obtain ⟨d, hd⟩ : ∃ d, l[j / 2]? = some d := ⟨_, List.getElem?_eq_getElem (by omega)⟩
    obtain ⟨g1, g2⟩ := dsV_get hd
    have hlt : j / 2 < l.length := by omega
    have hdd : l[j / 2] = d := (List.getElem?_eq_some_iff.1 hd).2
    have e1 : (flatK encD 2 l.toArray).toList[j]? = some ((encD d)[j % 2]!) := by
      rw [Array.getElem?_toList]
      simp [flatK, hj, hlt, hdd]
    rw [e1]
    have : j % 2 = 0 ∨ j % 2 = 1 := by omega
    rcases this with h | h
    · rw [h, show j = j / 2 * 2 by omega, g1]; rfl
    · rw [h]
      have e2 : j = j / 2 * 2 + 1 := by omega
      rw [e2, g2]; rfl
  · rw [List.getElem?_eq_none (by simp; omega), List.getElem?_eq_none (by rw [dsV_length]; omega)]
theorem putCells_id (cur : Array Value) (off : Nat) (ts : List Value) (h : off + ts.length ≤ cur.size) : ((putCells id off ts.toArray cur).toList.drop off).take ts.length = ts := by
  apply List.ext_getElem?
  intro j
  by_cases hj : j < ts.length
  · rw [List.getElem?_take_of_lt hj, List.getElem?_drop, Array.getElem?_toList]
    simp [putCells, hj, show off + j < cur.size by omega]
  · rw [List.getElem?_take_eq_none (by omega), List.getElem?_eq_none (by omega)]
theorem mod_grow {w w' : World} {S' : FS} (h : Mod w No w' S') : ∃ q os', w' = grow (w.drewN q) os' := by
  refine ⟨w'.drawn - w.drawn, w'.heap.extract w.heap.size w'.heap.size, ?_⟩
  obtain ⟨heap, tape, drawn, os, output⟩ := w
  obtain ⟨heap', tape', drawn', os', output'⟩ := w'
  obtain ⟨h1, h2, h3, h4, h5, h6, _⟩ := h
  dsimp only at *
  subst h1 h2 h3
  simp only [grow, World.drewN, World.mk.injEq, true_and, and_true]
  refine ⟨?_, by omega⟩
  apply Array.ext_getElem?
  intro k
  by_cases hk : k < heap.size
  · rw [Array.getElem?_append_left hk]
    exact h6 k hk (fun h => h)
  · rw [Array.getElem?_append_right (by omega)]
    by_cases hk2 : k < heap'.size
    · rw [Array.getElem?_extract]
      simp
      rw [show heap.size + (k - heap.size) = k by omega]
      rw [if_pos (by omega)]
    · rw [Array.getElem?_eq_none (by omega), Array.getElem?_eq_none (by simp; omega)]
end Go.Sl
namespace Go.Proofs.YtpajjnkmaebhcaaGreat
open Go.RowKit Go.Sl Fil Go.Sort Go.Shelf
theorem cmpK_lt {a b : Int} : cmpK a b < 0 ↔ a < b := by
  unfold cmpK
  (repeat' split) <;> omega
theorem cmpK_eq {a b : Int} : cmpK a b = 0 ↔ a = b := by
  unfold cmpK
  (repeat' split) <;> omega
theorem cmpD_lt {a b : Nat × Nat} : cmpD a b < 0 ↔ a.1 < b.1 ∨ a.1 = b.1 ∧ a.2 < b.2 := by
  unfold cmpD
  split
  · rename_i h
    have := cmpK_eq.1 h
    rw [cmpK_lt]; omega
  · rename_i h
    have : ¬ (a.1 : Int) = b.1 := fun e => h (cmpK_eq.2 e)
    rw [cmpK_lt]; omega
theorem leD_eq (a b : Nat × Nat) : (!(ltOf cmpD) b a) = leD a b := by
  have h := @cmpD_lt b a
  rw [ltOf, leD, ← decide_not]
  refine decide_eq_decide.2 ?_
  rw [h]; omega
theorem swo_D : SWO (ltOf cmpD) where
  irrefl x := decide_eq_false fun h => by have := cmpD_lt.1 h; omega
  trans x y z h1 h2 := by
    have a := cmpD_lt.1 (of_decide_eq_true h1)
    have b := cmpD_lt.1 (of_decide_eq_true h2)
    exact decide_eq_true (cmpD_lt.2 (by omega))
  ntrans x y z h1 h2 := by
    have a : ¬ _ := fun h => of_decide_eq_false h1 (cmpD_lt.2 h)
    have b : ¬ _ := fun h => of_decide_eq_false h2 (cmpD_lt.2 h)
    exact decide_eq_false fun h => by have := cmpD_lt.1 h; omega
theorem dartSort_row {w : World} {v : Value} {e : TypeId} {l : List (Nat × Nat)} {S : FS} (h : (rowHP v e 2 l.length (dsV l)).sat S w) (hlen : l.length < 4611686018427387904) :
    Calls Tryz.prog 58 #[v, .func (.func 59) #[] #[]] w (Post w S fun r L' => r = .tuple #[] ∧ L' = [rowHP v e 2 l.length (dsV (l.mergeSort leD))]) := by
  have hnone : l.length = 0 → ∀ p, v = .slice p 0 0 → Calls Tryz.prog 58 #[v, .func (.func 59) #[] #[]] w (Post w S fun r L' => r = .tuple #[] ∧ L' = [rowHP v e 2 l.length (dsV (l.mergeSort leD))]) := fun h0 p hp => by
    have hl : l = [] := List.eq_nil_of_length_eq_zero h0
    subst hl
    subst hp
    have c := AnyF.slices_SortFunc_none Tryz.sortDarts p 0 (.func (.func 59) #[] #[]) w
    change Calls Tryz.prog 58 _ _ _ at c
    refine Calls.mono c ?_
    rintro e' w' ⟨rfl, hw⟩
    subst hw
    refine ⟨_, _, ⟨rfl, rfl⟩, rfl, S, Mod.refl _ _, S, fun _ => False, fun _ h => h, fun _ h => h.elim, fun _ _ h => h, ?_, trivial⟩
    simpa [dsV] using h
  rcases h.2 with ⟨h1, h0⟩ | ⟨g, off, cap, cur, rfl, h2, h3, h4, h5, h6, h7⟩ | ⟨⟨a0, h1⟩, h0⟩
  · exact hnone h0 none h1
  · have hg := (Array.getElem?_eq_some_iff.1 h3).1
    have hsz : (flatK encD 2 l.toArray).size = l.length * 2 := by simp
    have hH : HoldsK encD 2 w g off l.toArray := by
      intro j hj
      rw [hsz] at hj
      have hj2 : j < (flatK encD 2 l.toArray).size := by rw [hsz]; exact hj
      refine ⟨?_, by simp [World.frozen?, h3]⟩
      have h8 : ((cur.toList.drop off).take (l.length * 2))[j]? = (dsV l)[j]? := by rw [h7]
      rw [List.getElem?_take_of_lt (by omega), List.getElem?_drop] at h8
      simp only [World.cell?, h3]
      simp only [Option.isSome_none, Bool.false_eq_true, if_false]
      rw [← Array.getElem?_toList, h8, ← flat_dsV, Array.getElem?_toList, Array.getElem?_eq_getElem hj2, getElem!_pos _ j hj2]
      rfl
    have c := AnyQ.slices_SortFunc_total Tryz.sortDarts 2 (fun w => Tryz.isAgg76 w) (fun w => Tryz.sizeOf76 w) encD (fun _ => rfl) (fun x u hu => by
      simp only [encD, List.mem_cons, List.not_mem_nil, or_false] at hu
      rcases hu with rfl | rfl <;> rfl) cmpD swo_D 59 #[] g off cap l.toArray w (fun args w => FnTy.c (P := Tryz.prog) (f := 59) args w) (fun m os dk _ x y => (dartOrder_ok x y _).mono fun e' w' ⟨u, L', ⟨hu, hL⟩, he, S', hm, _⟩ => by
        subst hu
        exact ⟨he, mod_grow hm⟩) hH hg (by simpa using hlen) (fun x y hx hy => by
        have a : ¬ _ := fun h => of_decide_eq_false hx (cmpD_lt.2 h)
        have b : ¬ _ := fun h => of_decide_eq_false hy (cmpD_lt.2 h)
        exact Prod.ext (by omega) (by omega))
    change Calls Tryz.prog 58 _ _ _ at c
    have hms : (l.toArray.toList.mergeSort fun x y => !(ltOf cmpD) y x) = l.mergeSort leD := by
      congr 1
      funext x y
      exact leD_eq x y
    rw [hms] at c
    refine Calls.mono c ?_
    rintro e' w' ⟨rfl, n, os, rfl⟩
    have hlen' : (l.mergeSort leD).length = l.length := List.length_mergeSort _
    have hfl : flatK encD 2 (l.mergeSort leD).toArray = (dsV (l.mergeSort leD)).toArray := by
      rw [← flat_dsV, Array.toArray_toList]
    refine ⟨_, _, ⟨rfl, rfl⟩, rfl, S, ⟨rfl, rfl, rfl, Nat.le_add_right _ _, by simp [sortWorldK, putRowK], fun k hk hS => ?_, fun k h => .inl h⟩, S, fun _ => False, fun _ h => h, fun _ h => h.elim, fun _ _ h => h, ?_, trivial⟩
    · rw [sortWorldK, heap_grow_old _ _ (by simpa [putRowK] using hk)]
      have : g ≠ k := fun e => hS (by rw [← e]; exact h2)
      simp [putRowK, putRow, mapBlock, Sort.ahead, Array.getElem?_modify, this]
    · refine ⟨by rw [dsV_length, hlen'], .inr (.inl ⟨g, off, cap, putCells id off (dsV (l.mergeSort leD)).toArray cur, rfl, h2, ?_, h4, h5, by simp [putCells, h6], ?_⟩)⟩
      · rw [sortWorldK, heap_grow_old _ _ (by simpa [putRowK] using hg), putRowK, hfl]
        simp [putRow, mapBlock, Sort.ahead, Array.getElem?_modify, h3, onCells]
      · have := putCells_id cur off (dsV (l.mergeSort leD)) (by rw [dsV_length, hlen', h6]; omega)
        rw [dsV_length, hlen'] at this
        exact this
  · exact hnone h0 (some a0) h1
end Go.Proofs.YtpajjnkmaebhcaaGreat
end
section
namespace Go.Sl
open Go Go.RowKit
section
variable {P : Program} {w0 : World} {S0 : FS} {n : Nat} {F : List (Nat × Value)} {L : List HP} {Q : Exit → Act → World → Prop}
theorem c_scope {c : Code} (h : Reach w0 S0 n F L (c.wp P (Exit.noGoto Q))) : Reach w0 S0 n F L ((Code.scope c).wp P Q) :=
  fun a w hf hs => wp_scope_straight (h a w hf hs)
theorem k_ng_ret (h : Reach w0 S0 n F L (Q .ret)) : Reach w0 S0 n F L (Exit.noGoto Q .ret) := fun a w hf hs => h a w hf hs
variable {Lk : List HP} {ops : Array Oper} {rest : List PI} {i d : Nat} {ty : TypeId} {ps : String} {af : Array Edge}
instance [T : PO Q] : PO (Exit.noGoto Q) := ⟨fun c a d v w h => T.ok c a d v w h⟩
end
end Go.Sl
end
section
set_option linter.unusedVariables false
namespace Fil
open Go.Sl
theorem rot_sys {n : Int} {es : List E} {ls : List (List Int)} (h : rotK n es ls = 0) : RightG n es ∧ ∃ R, ls = intL R ∧ RotL n.toNat (tn es) R := by
  unfold rotK at h
  split at h
  · simp at h
  · rename_i h0
    have hR := right_iff.1 (Classical.byContradiction h0)
    split at h
    · simp at h
    · rename_i h1
      split at h
      · rename_i h2
        rw [List.all_eq_true] at h2
        have hlo := hR.lo
        have hlen : ls.length = n.toNat := by omega
        have hp : ∀ v, v < n.toNat → ((nearS (tn es) v).map fun (k : Nat) => (k : Int)).Perm (ls.getD v []) := fun v hv => by
          have h3 := of_decide_eq_true (h2 v (List.mem_range.2 hv))
          rw [← h3]
          exact List.mergeSort_perm _ _
        have e : ∀ l ∈ ls, (l.map Int.toNat).map (fun (k : Nat) => (k : Int)) = l := fun l hl => by
          obtain ⟨v, hv, rfl⟩ := List.getElem_of_mem hl
          have h4 := hp v (by omega)
          rw [List.getD_eq_getElem?_getD, List.getElem?_eq_getElem hv, Option.getD_some] at h4
          rw [List.map_map]
          have h5 : ∀ x ∈ ls[v], (0 : Int) ≤ x := fun x hx => by
            obtain ⟨k, _, rfl⟩ := List.mem_map.1 (h4.mem_iff.2 hx)
            omega
          conv => rhs; rw [← List.map_id ls[v]]
          apply List.map_congr_left
          intro x hx
          have := h5 x hx
          simp only [Function.comp_apply, id_eq]
          omega
        refine ⟨hR, ls.map fun l => l.map Int.toNat, ?_, by simpa using hlen, fun v hv => ?_⟩
        · rw [intL, List.map_map]
          conv => lhs; rw [← List.map_id ls]
          apply List.map_congr_left
          intro l hl
          exact (e l hl).symm
        · have h4 := (hp v hv).symm.map Int.toNat
          rw [List.map_map] at h4
          have h5 : (nearS (tn es) v).map (Int.toNat ∘ fun (k : Nat) => (k : Int)) = nearS (tn es) v := by
            conv => rhs; rw [← List.map_id (nearS (tn es) v)]
            apply List.map_congr_left
            intro x _
            simp
          rw [h5] at h4
          have h6 : rf (ls.map fun l => l.map Int.toNat) v = (ls.getD v []).map Int.toNat := by
            rw [rf, List.getD_eq_getElem?_getD, List.getElem?_map, List.getD_eq_getElem?_getD]
            cases ls[v]? <;> rfl
          rw [h6]
          exact h4.trans (List.mergeSort_perm _ _)
      · simp at h
theorem rot_zero {n : Int} {es : List E} {R : List (List Nat)} (hR : RightG n es) (h : RotL n.toNat (tn es) R) : rotK n es (intL R) = 0 := by
  have hlo := hR.lo
  have hl : (intL R).length = n.toNat := by rw [intL, List.length_map]; exact h.len
  rw [rotK, if_neg (fun h => h (right_iff.2 hR)), if_neg (by omega), if_pos]
  rw [List.all_eq_true]
  intro v hv
  have hv := List.mem_range.1 hv
  have hg : (intL R).getD v [] = (rf R v).map fun (k : Nat) => (k : Int) := by
    rw [intL, List.getD_eq_getElem?_getD, List.getElem?_map, rf, List.getD_eq_getElem?_getD, List.getElem?_eq_getElem (by have := h.len; omega)]; rfl
  rw [rotB, hg, nat_sort]
  refine decide_eq_true (congrArg _ ?_)
  exact ((List.mergeSort_perm _ _).trans ((h.perm v hv).trans (List.mergeSort_perm _ _).symm)).eq_of_pairwise (fun a b _ _ h1 h2 => Nat.le_antisymm h1 h2)
    ((List.pairwise_mergeSort (fun a b c h1 h2 => by simp at *; omega) (fun a b => by simp; omega) (rf R v)).imp fun h => by simpa using h) (nearS_sort _ _)
theorem RotL.row {n : Int} {es : List E} {R : List (List Nat)} (hR : RightG n es) (h : RotL n.toNat (tn es) R) (v : Nat) : (rf R v).length ≤ n.toNat := by
  have h1 := sub_length (m := List.range n.toNat) ((h.sys hR).nd v) fun u hu => List.mem_range.2 (h.lt hR hu).1
  simpa using h1
theorem RotL.rows {n : Int} {es : List E} {R : List (List Nat)} (hR : RightG n es) (h : RotL n.toNat (tn es) R) : ∀ l ∈ intL R, l.length ≤ 1048576 := fun l hl => by
  have hhi := hR.hi
  obtain ⟨m, hm, rfl⟩ := List.mem_map.1 hl
  obtain ⟨v, hv, rfl⟩ := List.getElem_of_mem hm
  have h1 := h.row hR v
  rw [rf, List.getD_eq_getElem?_getD, List.getElem?_eq_getElem hv] at h1
  rw [List.length_map]
  simp only [Option.getD_some] at h1
  omega
/-- what was met -/
def metL (l : List (Nat × Nat)) : List ((Nat × Nat) × Bool) := l.map fun d => (d, true)
theorem metL_keys (l : List (Nat × Nat)) : (metL l).map Prod.fst = l := by
  rw [metL, List.map_map]
  conv => rhs; rw [← List.map_id l]
  rfl
theorem metL_snoc (l : List (Nat × Nat)) (d : Nat × Nat) : metL (l ++ [d]) = metL l ++ [(d, true)] := by simp [metL]
end Fil
namespace Go.Sl
open Go Go.RowKit Fil
theorem metL_in {l : List (Nat × Nat)} {d : Nat × Nat} (hn : l.Nodup) (h : d ∈ l) : (getK (metL l) d).getD false = true := by
  rw [getK_some (ks := metL l) (b := true) (by rw [metL_keys]; exact hn) (List.mem_map.2 ⟨d, h, rfl⟩)]; rfl
theorem metL_out {l : List (Nat × Nat)} {d : Nat × Nat} (h : d ∉ l) : (getK (metL l) d).getD false = false := by
  rw [getK_none (ks := metL l) (by rw [metL_keys]; exact h)]; rfl
theorem metL_put {l : List (Nat × Nat)} {d : Nat × Nat} (h : d ∉ l) : putK (metL l) d true = metL (l ++ [d]) := by
  rw [putK_new (ks := metL l) (by rw [metL_keys]; exact h), metL_snoc]
def rowD (h : Value) (l : List (Nat × Nat)) : HP := rowHP h 76 2 l.length (dsV l)
theorem dsV_append (a b : List (Nat × Nat)) : dsV (a ++ b) = dsV a ++ dsV b := by simp [dsV]
theorem dsV_at {l : List (Nat × Nat)} {i : Nat} {d : Nat × Nat} (h : l[i]? = some d) : ((dsV l).drop (i * 2)).take 2 = [.int .i64 (d.1 : Int), .int .i64 (d.2 : Int)] := by
  obtain ⟨h1, h2⟩ := dsV_get h
  have hl := (List.getElem?_eq_some_iff.1 h).1
  apply List.ext_getElem?
  intro j
  match j with
  | 0 => rw [List.getElem?_take_of_lt (by omega), List.getElem?_drop]; exact h1
  | 1 => rw [List.getElem?_take_of_lt (by omega), List.getElem?_drop]; exact h2
  | j + 2 => rw [List.getElem?_take_eq_none (by omega)]; rfl
end Go.Sl
end
section
set_option linter.unusedVariables false
namespace Go.Proofs.YtpajjnkmaebhcaaGreat
open Go.RowKit Go.Sl Fil
set_option maxRecDepth 100000
set_option maxHeartbeats 8000000
set_option linter.unusedVariables false
set_option linter.unusedSimpArgs false
attribute [local irreducible] Code.wp wpList bodyPost wpQuiet Exit.then Exit.inBlock Post wpAnyH wpOp
theorem rotFaces_ok (n : Int) (v : Value) (es : List E) (vr : Value) (hr0 : List Value) (R : List (List Nat)) (w : World) (hs : Shp v es.length) (hr : RO w No v (esV es)) (hG : RightG n es) (hR : ROs w No vr hr0 R) (hRot : RotL n.toNat (tn es) R) :
    Calls Tryz.prog 47 #[.agg #[.int .i64 n, v], vr] w (Post w No fun r L' => ∃ (vo : Value) (ho : List Value), r = .tuple #[vo, .int .i64 0] ∧ ho.length = (facesR n.toNat (tn es) R).length ∧ L' = [rowHP vo 77 1 (facesR n.toNat (tn es) R).length ho, starHP (kids rowD ho (facesR n.toNat (tn es) R))]) := by
  have hsr := hR.shp
  have hrr := hR.ro
  have hlo := hG.lo
  have hhi := hG.hi
  have hmany := hG.many
  have hRl := hRot.len
  refine enter0 (vs := [_, _]) Tryz.func47 rfl Tryz.ntmps47 rfl ?_
  repeat' first
    | refine k_then ?_ | refine c_seq ?_ | refine c_region ?_ | refine s_nil ?_ | refine s_assign (by exact rfl) (by exact rfl) ?_ | refine o_box (by exact rfl) (by exact rfl) (fun b => ?_)
  refine c_scope ?_
  repeat' first
    | refine c_seq ?_ | refine c_region ?_ | refine s_move (by exact rfl) (by exact rfl) ?_ | refine s_ldk_box (by exact rfl) (by exact rfl) (by exact .head _) (by exact rfl) (by exact rfl) ?_
  refine s_call (by exact rfl) (by exact rfl) (fun w h => rotRight_ok n v es vr hr0 (intL R) w hs (ro_old h hr) (by omega) (rosI_old h hR.int) (hRot.rows hG)) ?_
  rw [rot_zero hG hRot]
  repeat' first
    | refine k_then ?_ | refine c_seq ?_ | refine c_region ?_ | refine s_nil ?_ | refine s_move (by exact rfl) (by exact rfl) ?_ | refine s_assign (by exact rfl) (by exact rfl) ?_ | refine s_neq (by exact rfl) (by exact rfl) (by exact rfl) ?_ | refine c_skip ?_ | (refine c_cond_p (by exact rfl) (fun h => ?_) (fun h => ?_) <;> try (exfalso; omega))
  refine o_call (by exact rfl) (by exact rfl) (fun w h => behind_ok vr hr0 R w (ros_old h hR) (fun v => (hRot.sys hG).nd v) (fun v u hu => by have := (hRot.lt hG hu).1; omega) (by omega) (fun v => by have := hRot.row hG v; omega)) ?_
  rintro vm _ rfl
  repeat' first
    | refine k_then ?_ | refine c_seq ?_ | refine c_region ?_ | refine s_nil ?_ | refine s_move (by exact rfl) (by exact rfl) ?_ | refine s_assign (by exact rfl) (by exact rfl) ?_ | refine s_fa (by exact rfl) (by exact rfl) ?_ | refine s_ld_box (by exact rfl) (by exact rfl) (by exact .tail _ (.head _)) (by exact rfl) ?_ | refine s_len (by exact rfl) (by exact rfl) (by assumption) ?_ | refine c_block ?_
  refine c_nil 76 2 ?_
  refine c_loop (fun x : Nat × Value => x.1 ≤ es.length) (fun x => [(2, .pointer (some ⟨b, 0, none⟩)), (4, .slice none 0 0), (5, .int .i64 0), (7, vm), (8, x.2), (25, v), (26, .int .i64 (es.length : Int)), (27, .int .i64 (x.1 : Int))])
    (fun x => [rowHP x.2 76 2 (dartsE (tn (es.take x.1))).length (dsV (dartsE (tn (es.take x.1)))), mapHP ekD ekD okD vm (behL R R.length), boxHP b 24 [.int .i64 n, v]]) (fun x => es.length - x.1) (0, .slice none 0 0) [0, 0, 0] (Nat.zero_le _) (by exact rfl) ⟨rfl, rfl, rfl, rfl, rfl, rfl, rfl, rfl, trivial⟩ ?_
  rintro ⟨k, va⟩ hk
  dsimp only at hk ⊢
  have hml : (dartsE (tn (es.take k))).length = 2 * k := by rw [dartsE_length, tn_len, List.length_take]; omega
  by_cases hlt : k < es.length
  · obtain ⟨e, he⟩ : ∃ e, es[k]? = some e := ⟨_, List.getElem?_eq_getElem hlt⟩
    have hE := esV_at he
    have htk : dartsE (tn (es.take (k + 1))) = dartsE (tn (es.take k)) ++ [(e.1.toNat, e.2.1.toNat), (e.2.1.toNat, e.1.toNat)] := by
      rw [List.take_add_one, he, tn, List.map_append, ← tn]
      exact dartsE_snoc _ (e.1.toNat, e.2.1.toNat)
    obtain ⟨o1, o2, o3, o4, _⟩ := hG.ok e (List.mem_of_getElem? he)
    have u1 : e.1 = (e.1.toNat : Int) := by omega
    have u2 : e.2.1 = (e.2.1.toNat : Int) := by omega
    repeat' first
      | refine k_then ?_ | refine c_seq ?_ | refine c_region ?_ | refine s_nil ?_ | refine s_lss (by exact rfl) (by exact rfl) (by exact rfl) ?_ | refine s_idx (by exact rfl) (by exact rfl) (by exact rfl) (by assumption) (by first | assumption | omega) ?_ | refine s_ldk_ro (by exact rfl) (by exact rfl) (by assumption) (by decide) (by assumption) (by exact rfl) ?_ | refine o_alloc (by exact rfl) (fun b => ?_) | refine c_block ?_ | refine c_skip ?_ | (refine c_cond_p (by exact rfl) (fun h => ?_) (fun h => ?_) <;> try (exfalso; omega))
    refine o_stk_box (i := 0) (us := eV e) (by exact rfl) (by exact rfl) (by exact rfl) (by exact rfl) (by exact rfl) (by simp [eV, Value.oneCell']) (by simp [Value.cells]) ?_
    repeat' first
      | refine k_then ?_ | refine c_region ?_ | refine s_nil ?_ | refine s_move (by exact rfl) (by exact rfl) ?_ | refine s_fa (by exact rfl) (by exact rfl) ?_ | refine s_ld_box (by exact rfl) (by exact rfl) (by exact .head _) (by exact rfl) ?_
    refine o_build (cs := [.int .i64 e.1, .int .i64 e.2.1]) [(0, .int .i64 e.1, [.int .i64 e.1]), (1, .int .i64 e.2.1, [.int .i64 e.2.1])] (by exact rfl) (by exact rfl) (by simp [Value.cells]) (by exact rfl) ?_
    repeat' first
      | refine s_fa (by exact rfl) (by exact rfl) ?_ | refine s_ld_box (by exact rfl) (by exact rfl) (by exact .head _) (by exact rfl) ?_
    refine o_build (cs := [.int .i64 e.2.1, .int .i64 e.1]) [(0, .int .i64 e.2.1, [.int .i64 e.2.1]), (1, .int .i64 e.1, [.int .i64 e.1])] (by exact rfl) (by exact rfl) (by simp [Value.cells]) (by exact rfl) ?_
    refine o_mk [.agg #[.int .i64 e.1, .int .i64 e.2.1], .agg #[.int .i64 e.2.1, .int .i64 e.1]] (by exact rfl) (by exact rfl) rfl ?_ ?_ (by simp) fun vi hvi => ?_
    · simp [Value.cells]
    · simp
    have hnew : ([Value.agg #[.int .i64 e.1, .int .i64 e.2.1], .agg #[.int .i64 e.2.1, .int .i64 e.1]].flatMap fun u => u.cells.toList) = dsV [(e.1.toNat, e.2.1.toNat), (e.2.1.toNat, e.1.toNat)] := by
      rw [show dsV [(e.1.toNat, e.2.1.toNat), (e.2.1.toNat, e.1.toNat)] = [.int .i64 (e.1.toNat : Int), .int .i64 (e.2.1.toNat : Int), .int .i64 (e.2.1.toNat : Int), .int .i64 (e.1.toNat : Int)] from rfl, ← u1, ← u2]
      rfl
    rw [hnew]
    skip
    refine o_append_row (i := 2) (by exact rfl) (by exact rfl) (by exact rfl) (by exact rfl) (by exact .head _) (by exact rfl) (by intro u hu; exact dsV_one _ u hu) (by rw [hml]; show (2 * k + 2) * 16 ≤ _; omega) fun vy hvy => ?_
    repeat' first
      | refine k_then ?_ | refine c_region ?_ | refine s_nil ?_ | refine s_move (by exact rfl) (by exact rfl) ?_ | refine s_assign (by exact rfl) (by exact rfl) ?_ | refine s_add (by exact rfl) (by exact rfl) (by exact rfl) (by omega) ?_ | refine k_blk ?_
    refine c_round (k + 1, vy) [2, 2, 2] ?_ (by exact ⟨rfl, rfl, rfl, rfl, rfl, rfl, rfl, rfl, trivial⟩) (by dsimp only; omega) (by dsimp only; omega)
    dsimp only
    rw [htk, dsV_append, List.length_append]
    rfl
  · repeat' first
      | refine k_then ?_ | refine c_seq ?_ | refine c_region ?_ | refine s_nil ?_ | refine s_move (by exact rfl) (by exact rfl) ?_ | refine s_lss (by exact rfl) (by exact rfl) (by exact rfl) ?_ | refine c_exit ?_ | refine k_then_exit ?_ | refine k_blk_eq ?_ | (refine c_cond_p (by exact rfl) (fun h => ?_) (fun h => ?_) <;> try (exfalso; omega))
    obtain rfl : k = es.length := by omega
    rw [List.take_length] at *
    refine s_lend [rowHP va 76 2 (dartsE (tn es)).length (dsV (dartsE (tn es)))] _ (by exact rfl) (by exact rfl) (by exact rfl) (fun w S h => dartSort_row (sats_mem h.own (.head _)) (by omega)) ?_
    rintro _ _ ⟨rfl, rfl⟩
    have hml2 : (dartsE (tn es)).length = 2 * es.length := by rw [dartsE_length, tn_len]
    rw [darts_sorted hG, hml2, ← dartsAll_length hG]
    have hnd := dartsAll_nodup hG
    have hi := all_inj hG hRot
    have hm := all_mem hG hRot
    have hdl := dartsAll_length hG
    have hin : ∀ d ∈ dartsAll n.toNat (tn es), d.1 < n.toNat ∧ d.2 < n.toNat := fun d hd => dart_lt hG hd
    have hlk : ∀ d ∈ dartsAll n.toNat (tn es), (getK (behL R R.length) d).getD (0, 0) = nxt (rf R) d := fun d hd => by
      have h1 := (dart_in hG hRot).1 hd
      have h2 := (hRot.sys hG).sym h1
      rw [getK_some (behL_nodup (fun v => (hRot.sys hG).nd v) _) (beh_look (fun v => (hRot.sys hG).nd v) (by have := (hin d hd).2; omega) h2)]
      rfl
    have hfR : facesR n.toNat (tn es) R = (dartsAll n.toNat (tn es)).foldl (facesStep (nxt (rf R)) (2 * es.length + 1)) [] := by rw [facesR, facesL, tn_len]
    rw [hfR]
    generalize dartsAll n.toNat (tn es) = ds at *
    generalize nxt (rf R) = G at *
    generalize behL R R.length = Bh at *
    repeat' first
      | refine k_then ?_ | refine c_seq ?_ | refine c_region ?_ | refine s_nil ?_
    refine o_makeMap (by exact rfl) fun bm => ?_
    repeat' first
      | refine k_then ?_ | refine c_seq ?_ | refine s_nil ?_ | refine s_assign (by exact rfl) (by exact rfl) ?_
    refine c_label ?_
    refine know_row (v := va) (by exact .tail _ (.head _)) fun hva _ => ?_
    repeat' first
      | refine k_then ?_ | refine c_seq ?_ | refine c_region ?_ | refine s_nil ?_ | refine s_move (by exact rfl) (by exact rfl) ?_ | refine s_len (by exact rfl) (by exact rfl) (by assumption) ?_ | refine c_block ?_
    refine c_nil 77 1 ?_
    refine c_star0 ?_
    refine c_loop (fun x : Nat × Value × List Value => x.1 ≤ ds.length ∧ Fs G ds ((ds.take x.1).foldl (facesStep G (2 * es.length + 1)) []) ∧ x.2.2.length = ((ds.take x.1).foldl (facesStep G (2 * es.length + 1)) []).length ∧ ((ds.take x.1).foldl (facesStep G (2 * es.length + 1)) []).length ≤ x.1)
      (fun x => [(4, x.2.1), (5, .int .i64 0), (7, vm), (11, .map (some bm)), (48, va), (49, .int .i64 (ds.length : Int)), (50, .int .i64 (x.1 : Int))])
      (fun x => [mapHP ekD Value.bool okD (.map (some bm)) (metL ((ds.take x.1).foldl (facesStep G (2 * es.length + 1)) []).flatten), rowHP va 76 2 ds.length (dsV ds), mapHP ekD ekD okD vm Bh, rowHP x.2.1 77 1 ((ds.take x.1).foldl (facesStep G (2 * es.length + 1)) []).length x.2.2, starHP (kids rowD x.2.2 ((ds.take x.1).foldl (facesStep G (2 * es.length + 1)) []))])
      (fun x => ds.length - x.1) (0, .slice none 0 0, []) [2, 2, 2, 1, 0] ⟨Nat.zero_le _, ⟨by simp, by simp, by simp⟩, rfl, by simp⟩ (by exact rfl) ⟨rfl, rfl, rfl, rfl, rfl, rfl, rfl, trivial⟩ ?_
    rintro ⟨k, vo, ho⟩ ⟨hk, hFs, hol, hok⟩
    dsimp only at hk hFs hol hok ⊢
    by_cases hlt : k < ds.length
    · obtain ⟨d0, hd0⟩ : ∃ d, ds[k]? = some d := ⟨_, List.getElem?_eq_getElem hlt⟩
      have hd0m := List.mem_of_getElem? hd0
      have hE := dsV_at hd0
      have htk : (ds.take (k + 1)).foldl (facesStep G (2 * es.length + 1)) [] = facesStep G (2 * es.length + 1) ((ds.take k).foldl (facesStep G (2 * es.length + 1)) []) d0 := by
        rw [List.take_add_one, hd0, List.foldl_append]; rfl
      have hFs1 := (hFs.step hi hm (n := 2 * es.length + 1) (by omega) hd0m).1
      generalize (ds.take k).foldl (facesStep G (2 * es.length + 1)) [] = out at *
      repeat' first
        | refine k_then ?_ | refine c_seq ?_ | refine c_region ?_ | refine s_nil ?_ | refine s_lss (by exact rfl) (by exact rfl) (by exact rfl) ?_ | refine s_idx (by exact rfl) (by exact rfl) (by exact rfl) (by assumption) (by first | assumption | omega) ?_ | refine s_ldk_row (by exact rfl) (by exact rfl) (by exact .tail _ (.head _)) (by decide) (by assumption) (by exact rfl) ?_ | refine o_alloc (by exact rfl) (fun b => ?_) | refine c_block ?_ | refine c_skip ?_ | (refine c_cond_p (by exact rfl) (fun h => ?_) (fun h => ?_) <;> try (exfalso; omega))
      refine o_stk_box (i := 0) (us := [.int .i64 (d0.1 : Int), .int .i64 (d0.2 : Int)]) (by exact rfl) (by exact rfl) (by exact rfl) (by exact rfl) (by exact rfl) (by simp [Value.oneCell']) (by simp [Value.cells]) ?_
      repeat' first
        | refine k_then ?_ | refine c_seq ?_ | refine c_region ?_ | refine s_nil ?_ | refine s_assign (by exact rfl) (by exact rfl) ?_ | refine s_ldk_box (by exact rfl) (by exact rfl) (by exact .head _) (by exact rfl) (by exact rfl) ?_ | refine o_alloc (by exact rfl) (fun b => ?_)
      rename_i b13 _ b15
      refine o_stk_box (i := 0) (us := [.int .i64 (d0.1 : Int), .int .i64 (d0.2 : Int)]) (by exact rfl) (by exact rfl) (by exact rfl) (by exact rfl) (by exact rfl) (by simp [Value.oneCell']) (by simp [Value.cells]) ?_
      repeat' first
        | refine k_then ?_ | refine s_nil ?_ | refine c_block ?_
      refine c_nil 76 2 ?_
      refine c_loop (fun x : List (Nat × Nat) × (Nat × Nat) × Value × Nat => (d0 ∉ out.flatten → InF G ds out d0 x.1 x.2.1) ∧ (d0 ∈ out.flatten → x.1 = [] ∧ x.2.1 = d0) ∧ x.2.1 ∈ ds ∧ (out.flatten ++ x.1).Nodup ∧ x.1.length ≤ ds.length)
        (fun x => [(4, vo), (5, .int .i64 0), (7, vm), (11, .map (some bm)), (14, x.2.2.1), (15, .pointer (some ⟨x.2.2.2, 0, none⟩)), (48, va), (49, .int .i64 (ds.length : Int)), (50, .int .i64 (k : Int))])
        (fun x => [rowHP x.2.2.1 76 2 x.1.length (dsV x.1), mapHP ekD Value.bool okD (.map (some bm)) (metL (out.flatten ++ x.1)), boxHP x.2.2.2 76 [.int .i64 (x.2.1.1 : Int), .int .i64 (x.2.1.2 : Int)], mapHP ekD ekD okD vm Bh, rowHP va 76 2 ds.length (dsV ds), rowHP vo 77 1 out.length ho, starHP (kids rowD ho out)])
        (fun x => ds.length - x.1.length) ([], d0, .slice none 0 0, b) [0, 2, 0, 2, 1, 1, 1] ⟨fun h => hFs.start hd0m h, fun _ => ⟨rfl, rfl⟩, hd0m, by simpa using hFs.nd, Nat.zero_le _⟩ (by simp only [List.append_nil]; exact rfl) ⟨rfl, rfl, rfl, rfl, rfl, rfl, rfl, rfl, rfl, trivial⟩ ?_
      rintro ⟨f, x, vf, bx⟩ ⟨hI, hJ, hxm, hfn, hfl⟩
      dsimp only at hI hJ hxm hfn hfl ⊢
      refine know_row (v := vf) (.head _) fun hvf _ => ?_
      have hxin := hin x hxm
      have hgx := hin (G x) (hm x hxm)
      have hlkx := hlk x hxm
      by_cases hmet : x ∈ out.flatten ++ f
      · have hl1 := metL_in hfn hmet
        by_cases hf0 : f = []
        · have hd0f : d0 ∈ out.flatten := Classical.byContradiction fun hc => by
            rw [hf0, List.append_nil] at hmet
            exact (hI hc).far hmet
          have hfz : f.length = 0 := by rw [hf0]; rfl
          repeat' first
            | refine k_then ?_ | refine c_seq ?_ | refine c_region ?_ | refine s_nil ?_ | refine s_move (by exact rfl) (by exact rfl) ?_ | refine s_assign (by exact rfl) (by exact rfl) ?_ | refine s_add (by exact rfl) (by exact rfl) (by exact rfl) (by omega) ?_ | refine s_look (by exact rfl) (by exact rfl) (by exact rfl) (by exact .tail _ (.head _)) (by exact rfl) (by assumption) (by first | exact ⟨by omega, by omega⟩ | exact ⟨⟨by omega, by omega⟩, by omega, by omega⟩) ?_ | refine s_pick_t (by exact rfl) (by exact rfl) (by exact rfl) ?_ | refine s_ldk_box (by exact rfl) (by exact rfl) (by exact .tail _ (.tail _ (.head _))) (by exact rfl) (by exact rfl) ?_ | refine c_block ?_ | refine c_skip ?_ | refine c_exit ?_ | refine k_then_exit ?_ | refine k_blk_eq ?_ | refine k_blk_ne (by exact rfl) ?_ | (refine c_cond_p (by exact rfl) (fun h => ?_) (fun h => ?_) <;> try (exfalso; omega)) | refine c_cond_t (by exact rfl) ?_ | refine w_move (by exact rfl) (by exact rfl) (by exact rfl) (by exact rfl) ?_ | refine w_gtr (by exact rfl) (by exact rfl) (by exact rfl) (by exact rfl) (by exact rfl) ?_ | refine w_len (by exact rfl) (by exact rfl) (by exact rfl) (by exact rfl) (by assumption) ?_
          have hst : facesStep G (2 * es.length + 1) out d0 = out := if_pos hd0f
          rw [hst] at htk
          subst hf0
          refine c_round (k + 1, vo, ho) [1, 3, 2, 2, 2] (by dsimp only; rw [htk, List.append_nil]; rfl) ⟨rfl, rfl, rfl, rfl, rfl, rfl, rfl, trivial⟩ ⟨by dsimp only; omega, by dsimp only; rw [htk]; exact hFs, by dsimp only; rw [htk]; exact hol, by dsimp only; rw [htk]; omega⟩ (by dsimp only; omega)
        · have hd0f : d0 ∉ out.flatten := fun hc => hf0 (hJ hc).1
          have hInF := hI hd0f
          have hxf : x ∈ f := (List.mem_append.1 hmet).resolve_left hInF.far
          have hxd := hInF.met hi hxf
          have hfz : 0 < f.length := List.length_pos_iff.2 hf0
          repeat' first
            | refine k_then ?_ | refine c_seq ?_ | refine c_region ?_ | refine s_nil ?_ | refine s_move (by exact rfl) (by exact rfl) ?_ | refine s_assign (by exact rfl) (by exact rfl) ?_ | refine s_look (by exact rfl) (by exact rfl) (by exact rfl) (by exact .tail _ (.head _)) (by exact rfl) (by assumption) (by first | exact ⟨by omega, by omega⟩ | exact ⟨⟨by omega, by omega⟩, by omega, by omega⟩) ?_ | refine s_pick_t (by exact rfl) (by exact rfl) (by exact rfl) ?_ | refine s_ldk_box (by exact rfl) (by exact rfl) (by exact .tail _ (.tail _ (.head _))) (by exact rfl) (by exact rfl) ?_ | refine c_block ?_ | refine c_exit ?_ | refine k_then_exit ?_ | refine k_blk_eq ?_ | (refine c_cond_p (by exact rfl) (fun h => ?_) (fun h => ?_) <;> try (exfalso; omega)) | refine w_move (by exact rfl) (by exact rfl) (by exact rfl) (by exact rfl) ?_ | refine w_gtr (by exact rfl) (by exact rfl) (by exact rfl) (by exact rfl) (by exact rfl) ?_ | refine w_len (by exact rfl) (by exact rfl) (by exact rfl) (by exact rfl) (by assumption) ?_
          rw [hxd] at hInF
          have hst : facesStep G (2 * es.length + 1) out d0 = out ++ [f] := by rw [facesStep, if_neg hd0f, hInF.tr hf0 (by omega)]
          rw [hst] at htk hFs1
          refine o_mk [vf] (by exact rfl) (by exact rfl) rfl ?_ ?_ (by simp) fun vt hvt => ?_
          · intro u hu
            obtain rfl : u = vf := by simpa using hu
            rw [← Array.length_toList, one_cells hvf.one]; rfl
          · simp
          rw [show ([vf].flatMap fun u => u.cells.toList) = [vf] from by simp [one_cells hvf.one]]
          skip
          refine o_append_row (i := 6) (by exact rfl) (by exact rfl) (by exact rfl) (by exact rfl) (by exact .head _) (by exact rfl) (by simp [hvf.one]) ?_ fun vo2 hvo2 => ?_
          · show (out.length + 1) * 24 ≤ _
            omega
          repeat' first
            | refine k_then ?_ | refine c_seq ?_ | refine c_region ?_ | refine s_nil ?_ | refine s_move (by exact rfl) (by exact rfl) ?_ | refine s_assign (by exact rfl) (by exact rfl) ?_ | refine s_add (by exact rfl) (by exact rfl) (by exact rfl) (by omega) ?_ | refine c_exit ?_ | refine k_then_exit ?_ | refine k_blk ?_ | refine k_blk_eq ?_ | refine k_blk_ne (by exact rfl) ?_
          refine c_pick [1, 1, 3, 2, 2, 2] (by exact rfl) ?_
          refine c_pushk 4 (by exact rfl) ?_
          refine c_round (k + 1, vo2, ho ++ [vf]) [0, 0, 0, 0, 0] ?_ ⟨rfl, rfl, rfl, rfl, rfl, rfl, rfl, trivial⟩ ⟨by dsimp only; omega, by dsimp only; rw [htk]; exact hFs1, by dsimp only; rw [htk, List.length_append, List.length_append, hol]; rfl, by dsimp only; rw [htk, List.length_append]; simp only [List.length_cons, List.length_nil]; omega⟩ (by dsimp only; omega)
          dsimp only
          rw [htk, kids_append hol, List.length_append, List.flatten_append, show [f].flatten = f by simp]
          rfl
      · have hl1 := metL_out hmet
        repeat' first
          | refine k_then ?_ | refine c_seq ?_ | refine c_region ?_ | refine s_nil ?_ | refine s_move (by exact rfl) (by exact rfl) ?_ | refine s_assign (by exact rfl) (by exact rfl) ?_ | refine s_look (by exact rfl) (by exact rfl) (by exact rfl) (by exact .tail _ (.head _)) (by exact rfl) (by assumption) (by first | exact ⟨by omega, by omega⟩ | exact ⟨⟨by omega, by omega⟩, by omega, by omega⟩) ?_ | refine s_pick_f (by exact rfl) (by exact rfl) (by exact rfl) ?_ | refine s_ldk_box (by exact rfl) (by exact rfl) (by exact .tail _ (.tail _ (.head _))) (by exact rfl) (by exact rfl) ?_ | refine c_block ?_ | refine c_skip ?_ | refine c_exit ?_ | refine k_then_exit ?_ | refine k_blk_eq ?_ | refine k_blk_ne (by exact rfl) ?_ | refine c_cond_f (by exact rfl) ?_ | refine g_skip (by exact rfl) (by exact rfl) (by exact rfl) (by exact rfl) ?_
        have hd0f : d0 ∉ out.flatten := fun hc => hmet (List.mem_append.2 (.inl ((hJ hc).2 ▸ hc)))
        have hInF := hI hd0f
        have hne : f = [] ∨ x ≠ d0 := by
          cases f with
          | nil => exact .inl rfl
          | cons a f =>
            refine .inr fun e => hmet (List.mem_append.2 (.inr ?_))
            have h1 : d0 = a := hInF.st.1
            rw [e, h1]; exact .head _
        obtain ⟨hxf, hInF2⟩ := hInF.more hi hm hFs.cy hFs.sub hne
        have hroom := hInF.room hxf
        refine o_mapup (ek := ekD) (ev := Value.bool) (ok := okD) (i := 1) x true (by exact rfl) (by exact rfl) (by exact rfl) (by exact rfl) (by exact rfl) rfl ⟨by omega, by omega⟩ ?_
        rw [metL_put hmet, List.append_assoc]
        repeat' first
          | refine k_then ?_ | refine c_region ?_ | refine s_nil ?_ | refine s_move (by exact rfl) (by exact rfl) ?_ | refine s_ldk_box (by exact rfl) (by exact rfl) (by exact .tail _ (.tail _ (.head _))) (by exact rfl) (by exact rfl) ?_
        refine o_mk [.agg #[.int .i64 (x.1 : Int), .int .i64 (x.2 : Int)]] (by exact rfl) (by exact rfl) rfl ?_ ?_ (by simp) fun vt hvt => ?_
        · simp [Value.cells]
        · simp
        rw [show ([Value.agg #[.int .i64 (x.1 : Int), .int .i64 (x.2 : Int)]].flatMap fun u => u.cells.toList) = dsV [x] from rfl]
        skip
        refine o_append_row (i := 1) (by exact rfl) (by exact rfl) (by exact rfl) (by exact rfl) (by exact .head _) (by exact rfl) (by intro u hu; exact dsV_one _ u hu) ?_ fun vf2 hvf2 => ?_
        · show (f.length + 1) * 16 ≤ _
          omega
        repeat' first
          | refine k_then ?_ | refine c_seq ?_ | refine c_region ?_ | refine s_nil ?_ | refine s_assign (by exact rfl) (by exact rfl) ?_ | refine s_ldk_box (by exact rfl) (by exact rfl) (by exact .tail _ (.tail _ (.tail _ (.head _)))) (by exact rfl) (by exact rfl) ?_ | refine o_alloc (by exact rfl) (fun b => ?_) | refine k_blk ?_
        refine o_stk_box (i := 0) (us := [.int .i64 (x.1 : Int), .int .i64 (x.2 : Int)]) (by exact rfl) (by exact rfl) (by exact rfl) (by exact rfl) (by exact rfl) (by simp [Value.oneCell']) (by simp [Value.cells]) ?_
        repeat' first
          | refine k_then ?_ | refine c_region ?_ | refine s_nil ?_ | refine s_move (by exact rfl) (by exact rfl) ?_ | refine s_look (by exact rfl) (by exact rfl) (by exact rfl) (by exact .tail _ (.tail _ (.tail _ (.tail _ (.tail _ (.head _)))))) (by exact rfl) (by assumption) (by first | exact ⟨by omega, by omega⟩ | exact ⟨⟨by omega, by omega⟩, by omega, by omega⟩) ?_ | refine s_ldk_box (by exact rfl) (by exact rfl) (by exact .head _) (by exact rfl) (by exact rfl) ?_
        refine o_stk_box (i := 0) (us := [.int .i64 ((G x).1 : Int), .int .i64 ((G x).2 : Int)]) (by exact rfl) (by exact rfl) (by exact rfl) (by exact rfl) (by exact rfl) (by simp [Value.oneCell']) (by simp [Value.cells, putL]) ?_
        repeat' first
          | refine k_then ?_ | refine s_nil ?_
        refine c_round (f ++ [x], G x, vf2, b) [2, 2, 0, 2, 2, 2, 2] ?_ ⟨rfl, rfl, rfl, rfl, rfl, rfl, rfl, rfl, rfl, trivial⟩ ⟨fun _ => hInF2, fun hc => absurd hc hd0f, hm x hxm, ?_, by dsimp only; rw [List.length_append]; exact hroom⟩ (by dsimp only; rw [List.length_append]; simp only [List.length_cons, List.length_nil]; omega)
        · dsimp only
          rw [dsV_append, List.length_append]
          rfl
        · dsimp only
          rw [← List.append_assoc, List.nodup_append]
          refine ⟨hfn, by simp, fun a ha b hb e => ?_⟩
          obtain rfl : b = x := by simpa using hb
          exact hmet (e ▸ ha)
    · repeat' first
        | refine k_then ?_ | refine c_seq ?_ | refine c_region ?_ | refine s_nil ?_ | refine s_move (by exact rfl) (by exact rfl) ?_ | refine s_assign (by exact rfl) (by exact rfl) ?_ | refine s_lss (by exact rfl) (by exact rfl) (by exact rfl) ?_ | refine c_exit ?_ | refine c_ret ?_ | refine k_then_exit ?_ | refine k_blk_eq ?_ | (refine c_cond_p (by exact rfl) (fun h => ?_) (fun h => ?_) <;> try (exfalso; omega))
      obtain rfl : k = ds.length := by omega
      rw [List.take_length] at *
      refine k_ng_ret ?_
      refine retL [.tmp 4, .tmp 5] [vo, .int .i64 0] [3, 3] rfl ⟨res_tmp rfl, res_tmp rfl, trivial⟩ (by exact rfl) ⟨vo, ho, rfl, hol, rfl⟩
end Go.Proofs.YtpajjnkmaebhcaaGreat
end
section
set_option linter.unusedVariables false
namespace Fil
theorem map_set {α : Type} {cs : List α} {f g : α → Int} {i : Nat} {c : α} (hc : cs[i]? = some c) (h : ∀ (j : Nat) x, cs[j]? = some x → j ≠ i → g x = f x) : (cs.map f).set i (g c) = cs.map g := by
  have hi := (List.getElem?_eq_some_iff.1 hc).1
  apply List.ext_getElem?
  intro j
  rw [List.getElem?_set]
  by_cases e : i = j
  · subst e
    rw [if_pos rfl, if_pos (by simpa using hi), List.getElem?_map, hc]; rfl
  · rw [if_neg e, List.getElem?_map, List.getElem?_map]
    cases hx : cs[j]? with
    | none => rfl
    | some x => simp only [Option.map_some]; rw [h j x hx fun e' => e e'.symm]
theorem comp_one {N : Nat} {A : Nat → List Nat} {o lab : Nat → Nat} (hL : Lev N A o lab) {v : Nat} (hv : v < N) : ∃ a c, (compsS N lab)[a]? = some c ∧ v ∈ c ∧ ∀ (b : Nat) x, (compsS N lab)[b]? = some x → (v ∈ x ↔ b = a) := by
  have h1 := hL.le v hv
  have h2 := hL.idem v hv
  have hc : (List.range N).filter (fun u => lab u == lab v) ∈ compsS N lab := by
    simp only [compsS, compsI, List.mem_map, List.mem_filter, List.mem_range]
    exact ⟨lab v, ⟨by omega, by simpa using h2⟩, rfl⟩
  obtain ⟨a, ha⟩ := List.getElem?_of_mem hc
  refine ⟨a, _, ha, List.mem_filter.2 ⟨List.mem_range.2 hv, by simp⟩, fun b x hb => ⟨fun hx => ?_, fun e => ?_⟩⟩
  · rw [compsS, compsI, List.getElem?_map, Option.map_eq_some_iff] at ha hb
    obtain ⟨r, hr, hr2⟩ := ha
    obtain ⟨s, hs, hs2⟩ := hb
    subst hs2
    have e1 : lab v = s := by have := (List.mem_filter.1 hx).2; simpa using this
    have hvr : v ∈ (List.range N).filter (fun u => lab u == r) := by rw [hr2]; exact List.mem_filter.2 ⟨List.mem_range.2 hv, by simp⟩
    have e2 : lab v = r := by have := (List.mem_filter.1 hvr).2; simpa using this
    have hnd : ((List.range N).filter fun v => lab v == v).Nodup := List.nodup_range.sublist List.filter_sublist
    have l1 := (List.getElem?_eq_some_iff.1 hs)
    have l2 := (List.getElem?_eq_some_iff.1 hr)
    obtain ⟨l1, l3⟩ := l1
    obtain ⟨l2, l4⟩ := l2
    have h3 := congrArg ((List.range N).filter fun v => lab v == v).idxOf (show ((List.range N).filter fun v => lab v == v)[b] = ((List.range N).filter fun v => lab v == v)[a] by rw [l3, l4, ← e1, ← e2])
    rwa [hnd.idxOf_getElem, hnd.idxOf_getElem] at h3
  · subst e
    rw [ha] at hb
    obtain rfl := Option.some.inj hb
    exact List.mem_filter.2 ⟨List.mem_range.2 hv, by simp⟩
theorem fcount {α : Type} {l : List α} {k : Nat} {e : α} (p : α → Bool) (h : l[k]? = some e) : ((l.take (k + 1)).filter p).length = ((l.take k).filter p).length + if p e then 1 else 0 := by
  rw [List.take_add_one, h, List.filter_append, List.length_append, Option.toList_some, List.filter_cons]
  split <;> rfl
def baseK (c : List Nat) : Int := if c.length = 1 then 2 else (c.length : Int)
/-- behind k edges -/
def eulE (l : List (Nat × Nat)) (k : Nat) (c : List Nat) : Int := baseK c - (((l.take k).filter fun e => decide (e.1 ∈ c)).length : Int)
/-- behind all edges and k faces -/
def eulF (l : List (Nat × Nat)) (F : List (List (Nat × Nat))) (k : Nat) (c : List Nat) : Int := eulE l l.length c + (((F.take k).filter fun f => decide ((f.headD (0, 0)).1 ∈ c)).length : Int)
theorem eulE_zero (l : List (Nat × Nat)) : eulE l 0 = baseK := by funext c; simp [eulE]
theorem eulF_zero (l : List (Nat × Nat)) (F : List (List (Nat × Nat))) : eulF l F 0 = eulE l l.length := by funext c; simp [eulF]
theorem eulF_all (l : List (Nat × Nat)) (F : List (List (Nat × Nat))) : eulF l F F.length = eulerK l F := by
  funext c
  rw [eulF, eulE, baseK, eulerK, List.take_length, List.take_length]
theorem eulE_step {cs : List (List Nat)} {l : List (Nat × Nat)} {k a : Nat} {e : Nat × Nat} {c : List Nat} (he : l[k]? = some e) (hc : cs[a]? = some c) (hm : ∀ (b : Nat) x, cs[b]? = some x → (e.1 ∈ x ↔ b = a)) : (cs.map (eulE l k)).set a (eulE l k c - 1) = cs.map (eulE l (k + 1)) := by
  have h1 : ∀ x, eulE l (k + 1) x = eulE l k x - if e.1 ∈ x then 1 else 0 := fun x => by
    have := fcount (fun e => decide (e.1 ∈ x)) he
    rw [eulE, eulE, this]
    by_cases h : e.1 ∈ x
    · rw [if_pos (decide_eq_true h), if_pos h]; omega
    · rw [if_neg (by simpa using h), if_neg h]; omega
  rw [← map_set (f := eulE l k) (g := eulE l (k + 1)) hc fun j x hj hne => by rw [h1, if_neg fun h => hne ((hm j x hj).1 h)]; omega]
  rw [h1, if_pos ((hm a c hc).2 rfl)]
theorem eulF_step {cs : List (List Nat)} {l : List (Nat × Nat)} {F : List (List (Nat × Nat))} {k a : Nat} {f : List (Nat × Nat)} {c : List Nat} (he : F[k]? = some f) (hc : cs[a]? = some c) (hm : ∀ (b : Nat) x, cs[b]? = some x → ((f.headD (0, 0)).1 ∈ x ↔ b = a)) : (cs.map (eulF l F k)).set a (eulF l F k c + 1) = cs.map (eulF l F (k + 1)) := by
  have h1 : ∀ x, eulF l F (k + 1) x = eulF l F k x + if (f.headD (0, 0)).1 ∈ x then 1 else 0 := fun x => by
    have := fcount (fun f => decide ((f.headD (0, 0)).1 ∈ x)) he
    rw [eulF, eulF, this]
    by_cases h : (f.headD (0, 0)).1 ∈ x
    · rw [if_pos (decide_eq_true h), if_pos h]; omega
    · rw [if_neg (by simpa using h), if_neg h]; omega
  rw [← map_set (f := eulF l F k) (g := eulF l F (k + 1)) hc fun j x hj hne => by rw [h1, if_neg fun h => hne ((hm j x hj).1 h)]; omega]
  rw [h1, if_pos ((hm a c hc).2 rfl)]
theorem eulE_bound (l : List (Nat × Nat)) (k : Nat) (c : List Nat) : -(l.length : Int) ≤ eulE l k c ∧ eulE l k c ≤ c.length + 2 := by
  have h1 := List.length_filter_le (fun e : Nat × Nat => decide (e.1 ∈ c)) (l.take k)
  rw [List.length_take] at h1
  rw [eulE, baseK]
  split <;> omega
theorem eulF_bound (l : List (Nat × Nat)) (F : List (List (Nat × Nat))) (k : Nat) (c : List Nat) : -(l.length : Int) ≤ eulF l F k c ∧ eulF l F k c ≤ c.length + 2 + F.length := by
  have h1 := List.length_filter_le (fun f : List (Nat × Nat) => decide ((f.headD (0, 0)).1 ∈ c)) (F.take k)
  rw [List.length_take] at h1
  have h2 := eulE_bound l l.length c
  rw [eulF]
  omega
/-- the numbers of the first components -/
def baseL (cs : List (List Nat)) (i : Nat) : List Int := (cs.take i).map baseK ++ List.replicate (cs.length - i) 0
theorem baseL_length {cs : List (List Nat)} {i : Nat} (h : i ≤ cs.length) : (baseL cs i).length = cs.length := by simp [baseL]; omega
theorem baseL_set {cs : List (List Nat)} {i : Nat} {c : List Nat} (h : cs[i]? = some c) : (baseL cs i).set i (baseK c) = baseL cs (i + 1) := by
  have hi := (List.getElem?_eq_some_iff.1 h).1
  have e1 : cs.length - i = (cs.length - (i + 1)) + 1 := by omega
  rw [baseL, baseL, e1, List.replicate_succ, List.set_append_right _ _ (by simp; omega), List.take_add_one, h]
  simp only [List.length_map, List.length_take, Option.toList_some, List.map_append, List.map_cons, List.map_nil, List.append_assoc]
  rw [show i - min i cs.length = 0 by omega]
  rfl
theorem baseL_zero (cs : List (List Nat)) : baseL cs 0 = List.replicate cs.length 0 := by simp [baseL]
theorem baseL_all (cs : List (List Nat)) : baseL cs cs.length = cs.map baseK := by simp [baseL]
end Fil
end
section
namespace Fil
def ab (l : List (Nat × Nat)) (u : Nat) : List (Nat × Nat) := l.zipIdx.filterMap fun p => if p.1.1 = u then some (p.1.2, p.2) else if p.1.2 = u then some (p.1.1, p.2) else none
def arcsL (N : Nat) (l : List (Nat × Nat)) : List (List (Nat × Nat)) := (List.range N).map (ab l)
theorem ab_snoc (l : List (Nat × Nat)) (e : Nat × Nat) (u : Nat) : ab (l ++ [e]) u = ab l u ++ (if e.1 = u then [(e.2, l.length)] else if e.2 = u then [(e.1, l.length)] else []) := by
  simp only [ab, List.zipIdx_append, List.filterMap_append, List.zipIdx_cons, List.zipIdx_nil, List.filterMap_cons, List.filterMap_nil, Nat.zero_add]
  split <;> (try split) <;> simp_all <;> split <;> simp_all
theorem ab_fst (l : List (Nat × Nat)) (u : Nat) : (ab l u).map Prod.fst = nb l u := by
  have key : ∀ (l : List (Nat × Nat)) (k : Nat), ((l.zipIdx k).filterMap fun p => if p.1.1 = u then some (p.1.2, p.2) else if p.1.2 = u then some (p.1.1, p.2) else none).map Prod.fst = nb l u := by
    intro l
    induction l with
    | nil => intro k; rfl
    | cons e l ih =>
      intro k
      simp only [List.zipIdx_cons, List.filterMap_cons, nb]
      have := ih (k + 1)
      simp only [nb] at this
      by_cases h1 : e.1 = u
      · simp [h1, this]
      · by_cases h2 : e.2 = u
        · simp [h1, h2, this]
        · simp [h1, h2, this]
  exact key l 0
theorem ab_length (l : List (Nat × Nat)) (u : Nat) : (ab l u).length ≤ l.length := by
  have := nb_length l u
  rw [← ab_fst, List.length_map] at this
  exact this
theorem arcs_snoc {N : Nat} {l : List (Nat × Nat)} {u v : Nat} (hu : u < N) (hv : v < N) (hne : u ≠ v) : arcsL N (l ++ [(u, v)]) = ((arcsL N l).set u (ab l u ++ [(v, l.length)])).set v (ab l v ++ [(u, l.length)]) := by
  apply List.ext_getElem?
  intro k
  simp only [arcsL, List.getElem?_set, List.getElem?_map, List.length_set, List.length_map, List.length_range]
  by_cases hk : k < N
  · rw [List.getElem?_eq_getElem (by simpa using hk)]
    simp only [List.getElem_range, Option.map_some, ab_snoc]
    by_cases h1 : u = k
    · subst h1
      simp [Ne.symm hne, hu]
    · by_cases h2 : v = k
      · subst h2
        simp [hv, h1]
      · simp [h1, h2]
  · rw [List.getElem?_eq_none (by simpa using hk)]
    have h1 : u ≠ k := by omega
    have h2 : v ≠ k := by omega
    simp [h1, h2]
theorem arcs_get {N : Nat} {l : List (Nat × Nat)} {u : Nat} (hu : u < N) : (arcsL N l)[u]? = some (ab l u) := by simp [arcsL, hu]
theorem arcs_zero (N : Nat) : arcsL N [] = List.replicate N [] := by
  have : ab [] = fun _ => [] := rfl
  rw [arcsL, this, List.map_const', List.length_range]
theorem tn_length (es : List E) : (tn es).length = es.length := by simp [tn]
end Fil
end
section
namespace Go.Sl
open Go Go.RowKit
def aV (l : List (Nat × Nat)) : List Value := l.flatMap fun a => [.int .i64 (a.1 : Int), .int .i64 (a.2 : Int)]
def rowA (h : Value) (l : List (Nat × Nat)) : HP := rowHP h 66 2 l.length (aV l)
end Go.Sl
namespace Go.Proofs.YtpajjnkmaebhcaaGreat
open Go.RowKit Go.Sl Fil
set_option maxRecDepth 100000
set_option maxHeartbeats 8000000
set_option linter.unusedVariables false
set_option linter.unusedSimpArgs false
attribute [local irreducible] Code.wp wpList bodyPost wpQuiet Exit.then Exit.inBlock Post wpAnyH wpOp
theorem arcs_ok (n : Int) (v : Value) (es : List E) (w : World) (hs : Shp v es.length) (hr : RO w No v (esV es)) (hR : RightG n es) :
    Calls Tryz.prog 33 #[.agg #[.int .i64 n, v]] w (Post w No fun r L' => ∃ hs : List Value, hs.length = n.toNat ∧ L' = [rowHP r 64 1 n.toNat hs, starHP (kids rowA hs (arcsL n.toNat (tn es)))]) := by
  have hm : es.length < 4611686018427387904 := by have := hR.many; omega
  have hlo := hR.lo
  have hhi := hR.hi
  refine enter0 (vs := [_]) Tryz.func33 rfl Tryz.ntmps33 rfl ?_
  repeat' first
    | refine k_then ?_ | refine c_seq ?_ | refine c_region ?_ | refine s_nil ?_ | refine s_assign (by exact rfl) (by exact rfl) ?_ | refine s_fa (by exact rfl) (by exact rfl) ?_ | refine s_ld_box (by exact rfl) (by exact rfl) (by exact .head _) (by exact rfl) ?_ | refine o_box (by exact rfl) (by exact rfl) (fun b => ?_)
  refine o_make (by exact rfl) (by exact rfl) (by exact rfl) (by omega) (by omega) fun vo hvo => ?_
  rw [made1 rfl]
  repeat' first
    | refine k_then ?_ | refine c_seq ?_ | refine c_region ?_ | refine s_nil ?_ | refine s_move (by exact rfl) (by exact rfl) ?_ | refine s_assign (by exact rfl) (by exact rfl) ?_ | refine s_fa (by exact rfl) (by exact rfl) ?_ | refine s_ld_box (by exact rfl) (by exact rfl) (by exact .tail _ (.head _)) (by exact rfl) ?_ | refine s_len (by exact rfl) (by exact rfl) (by assumption) ?_ | refine c_block ?_
  refine c_nils 66 2 n.toNat ?_
  refine c_loop (fun x : Nat × List Value => x.1 ≤ es.length ∧ x.2.length = n.toNat) (fun x => [(3, vo), (10, v), (11, .int .i64 (es.length : Int)), (12, .int .i64 (x.1 : Int))]) (fun x => [rowHP vo 64 1 n.toNat x.2, starHP (kids rowA x.2 (arcsL n.toNat (tn (es.take x.1))))]) (fun x => es.length - x.1) (0, List.replicate n.toNat (.slice none 0 0)) [1, 0] ⟨by omega, by simp⟩ ?_ ⟨rfl, rfl, rfl, rfl, trivial⟩ ?_
  · show _ = some [_, starHP (kids rowA _ (arcsL n.toNat []))]
    rw [arcs_zero, kids_nils]
    rfl
  rintro ⟨k, hs0⟩ ⟨hk, hl0⟩
  dsimp only at hk hl0 ⊢
  by_cases hlt : k < es.length
  · obtain ⟨e, he⟩ : ∃ e, es[k]? = some e := ⟨_, List.getElem?_eq_getElem hlt⟩
    have hE := esV_at he
    obtain ⟨q1, q2, q3, -, -⟩ := hR.ok e (List.mem_of_getElem? he)
    have hsn := arcs_snoc (N := n.toNat) (l := tn (es.take k)) (u := e.1.toNat) (v := e.2.1.toNat) (by omega) (by omega) (by omega)
    rw [← tn_take he, tn_length, List.length_take, Nat.min_eq_left (by omega)] at hsn
    generalize hls : arcsL n.toNat (tn (es.take k)) = ls at *
    have hb : ∀ u, (ab (tn (es.take k)) u).length ≤ 4194304 := fun u => by
      have := ab_length (tn (es.take k)) u
      have h2 := hR.many
      rw [tn_length, List.length_take] at this
      omega
    repeat' first
      | refine k_then ?_ | refine c_seq ?_ | refine c_region ?_ | refine s_nil ?_ | refine s_move (by exact rfl) (by exact rfl) ?_ | refine s_assign (by exact rfl) (by exact rfl) ?_ | refine s_lss (by exact rfl) (by exact rfl) (by exact rfl) ?_ | refine s_idx (by exact rfl) (by exact rfl) (by exact rfl) (by assumption) (by first | assumption | omega) ?_ | refine s_ldk_ro (by exact rfl) (by exact rfl) (by assumption) (by decide) (by assumption) (by exact rfl) ?_ | refine o_alloc (by exact rfl) (fun b => ?_) | refine c_block ?_ | refine c_skip ?_ | (refine c_cond_p (by exact rfl) (fun h => ?_) (fun h => ?_) <;> try (exfalso; omega))
    refine o_stk_box (i := 0) (us := eV e) (by exact rfl) (by exact rfl) (by exact rfl) (by exact rfl) (by exact rfl) (by simp [eV, Value.oneCell']) (by simp [Value.cells]) ?_
    repeat' first
      | refine k_then ?_ | refine c_seq ?_ | refine s_nil ?_
    refine c_cut (fun hs1 : List Value => hs1.length = n.toNat) (fun _ => [(4, .int .i64 (k : Int)), (5, .pointer (some ⟨b, 0, none⟩)), (3, vo), (10, v), (11, .int .i64 (es.length : Int)), (12, .int .i64 (k : Int))]) (fun hs1 => [boxHP b 40 (eV e), rowHP vo 64 1 n.toNat hs1, starHP (kids rowA hs1 (ls.set e.1.toNat ((ab (tn (es.take k)) e.1.toNat) ++ [(e.2.1.toNat, k)])))]) ?_ fun hs1 hl1 => ?_
    · obtain ⟨hd, hhd⟩ : ∃ hd, hs0[e.1.toNat * 1]? = some hd := ⟨_, List.getElem?_eq_getElem (by omega)⟩
      have hkid : (ls)[e.1.toNat]? = some (ab (tn (es.take k)) e.1.toNat) := by rw [← hls]; exact arcs_get (by omega)
      refine c_take 2 e.1.toNat (by exact rfl) (kids_get (by simpa using hhd) hkid) ?_
      refine p_begin [(0, true), (1, true), (2, true), (3, true), (4, true), (5, true), (6, true), (8, true), (9, true), (10, true), (11, true), .rd 7 12, (13, false), (14, true), (15, false)] [boxHP b 40 (eV e)] (by kernel_rfl) ?_
      repeat' first
        | (refine p_at (by exact rfl) ?_
           first
            | refine t_move (by exact rfl) (by exact rfl) (by exact fun _ h => h.pick [1] (by exact rfl)) ?_ | refine t_fa (by exact rfl) (by exact rfl) (by exact fun _ h => h.pick [1] (by exact rfl)) ?_ | refine t_ld_box (by exact rfl) (by exact rfl) (by exact .head _) (by exact rfl) (by exact fun _ h => h.pick [1] (by exact rfl)) ?_ | refine t_idxi (by exact rfl) (by exact rfl) (by exact rfl) (by assumption) (by first | assumption | omega) (by exact fun _ h => h.pick [1] (by exact rfl)) ?_)
      refine p_buildt (cs := [.int .i64 e.2.1, .int .i64 (k : Int)]) [(0, .int .i64 e.2.1, [.int .i64 e.2.1]), (1, .int .i64 (k : Int), [.int .i64 (k : Int)])] (by exact rfl) (by exact rfl) (by exact rfl) (by simp [Value.cells]) ?_ (by exact fun _ h => h.pick [1] (by exact rfl)) ?_
      · exact rfl
      refine p_rd ?_ ?_
      all_goals
        repeat' first
          | (refine p_at (by exact rfl) ?_
             first
              | refine r_ld_row (by exact rfl) (by exact rfl) (by exact .tail _ (.tail _ (.head _))) (by assumption) (by exact fun _ h => h.pick [1] (by exact rfl)) ?_)
        refine p_mk [.agg #[.int .i64 e.2.1, .int .i64 (k : Int)]] (by exact rfl) rfl (by exact rfl) rfl ?_ ?_ (by simp) (fun w A h => h.pick [2] (by exact rfl)) (fun sx hsx => ?_)
        · simp [Value.cells]
        · simp
        repeat' first
          | (refine p_at (by exact rfl) ?_
             first
              | refine r_ld_row (by exact rfl) (by exact rfl) (by exact .tail _ (.tail _ (.tail _ (.head _)))) (by assumption) (by exact fun _ h => h.pick [2] (by exact rfl)) ?_)
        refine p_append_row (j := 1) (by exact rfl) (by exact rfl) (by exact rfl) (by exact rfl) (by exact rfl) (by exact .head _) (by exact rfl) (by simp [Value.cells, Value.oneCell']) ?_ (fun w v h => h.pick [2] (by exact rfl)) (fun vk hvk => ?_)
        · have := hb e.1.toNat
          simp only [List.length_cons, List.length_nil]
          omega
        repeat' first
          | (refine p_at (by exact rfl) ?_
             first
              | refine t_idxi (by exact rfl) (by exact rfl) (by exact rfl) (by assumption) (by first | assumption | omega) (by exact fun _ h => h.pick [2] (by exact rfl)) ?_)
        refine p_st_row (j := 3) (by exact rfl) (by exact rfl) (by exact rfl) (by exact rfl) hvk.one (by omega) (fun w h => h.pick [2] (by exact rfl)) ?_
        repeat' first
          | refine p_nil ?_
        refine c_pick [1, 1, 1, 1] (by exact rfl) ?_
        have e1 : rowHP vk 66 2 ((ab (tn (es.take k)) e.1.toNat).length + 1) (aV (ab (tn (es.take k)) e.1.toNat) ++ [Value.int .i64 e.2.1, Value.int .i64 (k : Int)]) = rowA vk ((ab (tn (es.take k)) e.1.toNat) ++ [(e.2.1.toNat, k)]) := by
          rw [show (e.2.1 : Int) = ((e.2.1.toNat : Nat) : Int) from by omega]
          simp [rowA, aV, List.flatMap_append]
        refine c_give 2 e.1.toNat (by exact rfl) (by simp [kids, hl0, ← hls, arcsL]; omega) ?_
        refine cut_end (hs0.set e.1.toNat vk) [0, 0, 0] ?_ ⟨rfl, rfl, rfl, rfl, rfl, rfl, trivial⟩ (by simpa using hl0)
        rw [← kids_set (x := empHP), ← e1, Nat.mul_one]
        rfl
    repeat' first
      | refine k_then ?_
    refine c_cut (fun hs1 : List Value => hs1.length = n.toNat) (fun _ => [(4, .int .i64 (k : Int)), (5, .pointer (some ⟨b, 0, none⟩)), (3, vo), (10, v), (11, .int .i64 (es.length : Int)), (12, .int .i64 (k : Int))]) (fun hs1 => [boxHP b 40 (eV e), rowHP vo 64 1 n.toNat hs1, starHP (kids rowA hs1 ((ls.set e.1.toNat ((ab (tn (es.take k)) e.1.toNat) ++ [(e.2.1.toNat, k)])).set e.2.1.toNat ((ab (tn (es.take k)) e.2.1.toNat) ++ [(e.1.toNat, k)])))]) ?_ fun hs2 hl2 => ?_
    · obtain ⟨hd, hhd⟩ : ∃ hd, hs1[e.2.1.toNat * 1]? = some hd := ⟨_, List.getElem?_eq_getElem (by omega)⟩
      have hkid : (ls.set e.1.toNat ((ab (tn (es.take k)) e.1.toNat) ++ [(e.2.1.toNat, k)]))[e.2.1.toNat]? = some (ab (tn (es.take k)) e.2.1.toNat) := by rw [List.getElem?_set_ne (by omega), ← hls]; exact arcs_get (by omega)
      refine c_take 2 e.2.1.toNat (by exact rfl) (kids_get (by simpa using hhd) hkid) ?_
      refine p_begin [(0, true), (1, true), (2, true), (3, true), (4, true), (5, true), (6, true), (8, true), (9, true), (10, true), (11, true), .rd 7 12, (13, false), (14, true), (15, false)] [boxHP b 40 (eV e)] (by kernel_rfl) ?_
      repeat' first
        | (refine p_at (by exact rfl) ?_
           first
            | refine t_move (by exact rfl) (by exact rfl) (by exact fun _ h => h.pick [1] (by exact rfl)) ?_ | refine t_fa (by exact rfl) (by exact rfl) (by exact fun _ h => h.pick [1] (by exact rfl)) ?_ | refine t_ld_box (by exact rfl) (by exact rfl) (by exact .head _) (by exact rfl) (by exact fun _ h => h.pick [1] (by exact rfl)) ?_ | refine t_idxi (by exact rfl) (by exact rfl) (by exact rfl) (by assumption) (by first | assumption | omega) (by exact fun _ h => h.pick [1] (by exact rfl)) ?_)
      refine p_buildt (cs := [.int .i64 e.1, .int .i64 (k : Int)]) [(0, .int .i64 e.1, [.int .i64 e.1]), (1, .int .i64 (k : Int), [.int .i64 (k : Int)])] (by exact rfl) (by exact rfl) (by exact rfl) (by simp [Value.cells]) ?_ (by exact fun _ h => h.pick [1] (by exact rfl)) ?_
      · exact rfl
      refine p_rd ?_ ?_
      all_goals
        repeat' first
          | (refine p_at (by exact rfl) ?_
             first
              | refine r_ld_row (by exact rfl) (by exact rfl) (by exact .tail _ (.tail _ (.head _))) (by assumption) (by exact fun _ h => h.pick [1] (by exact rfl)) ?_)
        refine p_mk [.agg #[.int .i64 e.1, .int .i64 (k : Int)]] (by exact rfl) rfl (by exact rfl) rfl ?_ ?_ (by simp) (fun w A h => h.pick [2] (by exact rfl)) (fun sx hsx => ?_)
        · simp [Value.cells]
        · simp
        repeat' first
          | (refine p_at (by exact rfl) ?_
             first
              | refine r_ld_row (by exact rfl) (by exact rfl) (by exact .tail _ (.tail _ (.tail _ (.head _)))) (by assumption) (by exact fun _ h => h.pick [2] (by exact rfl)) ?_)
        refine p_append_row (j := 1) (by exact rfl) (by exact rfl) (by exact rfl) (by exact rfl) (by exact rfl) (by exact .head _) (by exact rfl) (by simp [Value.cells, Value.oneCell']) ?_ (fun w v h => h.pick [2] (by exact rfl)) (fun vk hvk => ?_)
        · have := hb e.2.1.toNat
          simp only [List.length_cons, List.length_nil]
          omega
        repeat' first
          | (refine p_at (by exact rfl) ?_
             first
              | refine t_idxi (by exact rfl) (by exact rfl) (by exact rfl) (by assumption) (by first | assumption | omega) (by exact fun _ h => h.pick [2] (by exact rfl)) ?_)
        refine p_st_row (j := 3) (by exact rfl) (by exact rfl) (by exact rfl) (by exact rfl) hvk.one (by omega) (fun w h => h.pick [2] (by exact rfl)) ?_
        repeat' first
          | refine p_nil ?_
        refine c_pick [1, 1, 1, 1] (by exact rfl) ?_
        have e1 : rowHP vk 66 2 ((ab (tn (es.take k)) e.2.1.toNat).length + 1) (aV (ab (tn (es.take k)) e.2.1.toNat) ++ [Value.int .i64 e.1, Value.int .i64 (k : Int)]) = rowA vk ((ab (tn (es.take k)) e.2.1.toNat) ++ [(e.1.toNat, k)]) := by
          rw [show (e.1 : Int) = ((e.1.toNat : Nat) : Int) from by omega]
          simp [rowA, aV, List.flatMap_append]
        refine c_give 2 e.2.1.toNat (by exact rfl) (by simp [kids, hl1, ← hls, arcsL]; omega) ?_
        refine cut_end (hs1.set e.2.1.toNat vk) [0, 0, 0] ?_ ⟨rfl, rfl, rfl, rfl, rfl, rfl, trivial⟩ (by simpa using hl1)
        rw [← kids_set (x := empHP), ← e1, Nat.mul_one]
        rfl
    repeat' first
      | refine k_then ?_ | refine c_region ?_ | refine s_nil ?_ | refine s_move (by exact rfl) (by exact rfl) ?_ | refine s_add (by exact rfl) (by exact rfl) (by exact rfl) (by omega) ?_ | refine k_blk ?_
    refine c_round (k + 1, hs2) [1, 1] (by rw [hsn]; rfl) (by exact ⟨rfl, rfl, rfl, rfl, trivial⟩) ⟨by omega, hl2⟩ (by dsimp only; omega)
  · repeat' first
      | refine k_then ?_ | refine c_seq ?_ | refine c_region ?_ | refine s_nil ?_ | refine s_move (by exact rfl) (by exact rfl) ?_ | refine s_assign (by exact rfl) (by exact rfl) ?_ | refine s_lss (by exact rfl) (by exact rfl) (by exact rfl) ?_ | refine c_exit ?_ | refine c_ret ?_ | refine k_then_exit ?_ | refine k_blk_eq ?_ | (refine c_cond_p (by exact rfl) (fun h => ?_) (fun h => ?_) <;> try (exfalso; omega))
    obtain rfl : k = es.length := by omega
    refine ret1 [0, 0] rfl rfl rfl ⟨hs0, hl0, ?_⟩
    rw [List.take_length]
end Go.Proofs.YtpajjnkmaebhcaaGreat
end
section
namespace Go.Sl
open Go Go.RowKit
theorem aV_at {l : List (Nat × Nat)} {j : Nat} {a : Nat × Nat} (h : l[j]? = some a) : ((aV l).drop (j * 2)).take 2 = [.int .i64 (a.1 : Int), .int .i64 (a.2 : Int)] := by
  induction l generalizing j with
  | nil => simp at h
  | cons x l ih =>
    cases j with
    | zero =>
      obtain rfl : x = a := by simpa using h
      rfl
    | succ j =>
      have := ih (j := j) (by simpa using h)
      rw [show (j + 1) * 2 = j * 2 + 2 from by omega]
      exact this
end Go.Sl
namespace Go.Proofs.YtpajjnkmaebhcaaGreat
open Go.RowKit Go.Sl Fil
set_option maxRecDepth 100000
set_option maxHeartbeats 8000000
set_option linter.unusedVariables false
set_option linter.unusedSimpArgs false
attribute [local irreducible] Code.wp wpList bodyPost wpQuiet Exit.then Exit.inBlock Post wpAnyH wpOp
theorem Components_ok (n : Int) (v : Value) (es : List E) (w : World) (hs : Shp v es.length) (hr : RO w No v (esV es)) (hR : RightG n es) :
    Calls Tryz.prog 20 #[.agg #[.int .i64 n, v]] w (Post w No fun r L' => ∃ (met : List Bool) (out : List Nat) (lab : Nat → Nat) (hr : List Value), Bfs n.toNat (nb (tn es)) n.toNat met out lab [] ∧ hr.length = (compsL n.toNat n.toNat met lab).length ∧ L' = [rowHP r 41 1 (compsL n.toNat n.toNat met lab).length hr, starHP (kids rowN hr (compsL n.toNat n.toNat met lab))]) := by
  have hR0 := right_iff.2 hR
  have hm : es.length < 4611686018427387904 := by have := hR.many; omega
  have hlo := hR.lo
  have hhi := hR.hi
  have hA := hR.good.adj
  refine enter0 (vs := [_]) Tryz.func20 rfl Tryz.ntmps20 rfl ?_
  repeat' first
    | refine k_then ?_ | refine c_seq ?_ | refine c_region ?_ | refine s_nil ?_ | refine s_assign (by exact rfl) (by exact rfl) ?_ | refine s_ldk_box (by exact rfl) (by exact rfl) (by exact .head _) (by exact rfl) (by exact rfl) ?_ | refine o_box (by exact rfl) (by exact rfl) (fun b => ?_)
  refine s_call (by exact rfl) (by exact rfl) (fun w h => Right_ok n v es w hs (ro_old h hr) hm) ?_
  repeat' first
    | refine k_then ?_ | refine c_seq ?_ | refine c_region ?_ | refine s_nil ?_ | refine s_neq (by exact rfl) (by exact rfl) (by exact rfl) ?_ | refine s_ldk_box (by exact rfl) (by exact rfl) (by exact .head _) (by exact rfl) (by exact rfl) ?_ | refine c_skip ?_ | (refine c_cond_p (by exact rfl) (fun h => ?_) (fun h => ?_) <;> try (exfalso; omega))
  refine o_call (by exact rfl) (by exact rfl) (fun w h => arcs_ok n v es w hs (ro_old h hr) hR) ?_
  rintro va _ ⟨ha, hla, rfl⟩
  refine know_row (v := va) (.head _) fun hva _ => ?_
  repeat' first
    | refine k_then ?_ | refine c_seq ?_ | refine c_region ?_ | refine s_nil ?_ | refine s_assign (by exact rfl) (by exact rfl) ?_ | refine s_fa (by exact rfl) (by exact rfl) ?_ | refine s_ld_box (by exact rfl) (by exact rfl) (by exact .tail _ (.tail _ (.head _))) (by exact rfl) ?_
  refine o_make (by exact rfl) (by exact rfl) (by exact rfl) (by omega) (by omega) fun vm hvm => ?_
  rw [made1 (z := .bool false) rfl]
  repeat' first
    | refine k_then ?_ | refine c_seq ?_ | refine c_region ?_ | refine s_nil ?_ | refine s_move (by exact rfl) (by exact rfl) ?_ | refine s_assign (by exact rfl) (by exact rfl) ?_ | refine s_fa (by exact rfl) (by exact rfl) ?_ | refine s_ld_box (by exact rfl) (by exact rfl) (by exact .tail _ (.tail _ (.tail _ (.head _)))) (by exact rfl) ?_ | refine c_block ?_
  have hal : ∀ x, (ab (tn es) x).length ≤ 4194304 := fun x => by
    have h1 := ab_length (tn es) x
    have h2 := hR.many
    rw [tn_length] at h1
    omega
  generalize hl : tn es = l at *
  generalize hN : n.toNat = N at *
  have hnN : n = (N : Int) := by omega
  subst hnN
  refine c_nil 41 1 ?_
  refine c_star0 ?_
  refine c_loop (fun x : Nat × List Bool × List Nat × (Nat → Nat) × Value × List Value => x.1 ≤ N ∧ Bfs N (nb l) x.1 x.2.1 x.2.2.1 x.2.2.2.1 [] ∧ x.2.2.2.2.2.length = (compsL N x.1 x.2.1 x.2.2.2.1).length ∧ ∀ u, x.2.1.getD u false = true → x.2.2.2.1 u < x.1) (fun x => [(2, x.2.2.2.2.1), (3, va), (4, vm), (19, .int .i64 (N : Int)), (20, .int .i64 (x.1 : Int))])
    (fun x => [rowHP vm 4 1 N (bV x.2.1), rowHP x.2.2.2.2.1 41 1 (compsL N x.1 x.2.1 x.2.2.2.1).length x.2.2.2.2.2, starHP (kids rowN x.2.2.2.2.2 (compsL N x.1 x.2.1 x.2.2.2.1)), rowHP va 64 1 N ha, starHP (kids rowA ha (arcsL N l))]) (fun x => N - x.1) (0, List.replicate N false, List.replicate N 0, (fun _ => 0), .slice none 0 0, []) [2, 1, 0, 0, 0] ⟨Nat.zero_le _, Bfs.init N (nb l), rfl, ?_⟩ ?_ ⟨rfl, rfl, rfl, rfl, rfl, trivial⟩ ?_
  · intro u hu
    simp only [List.getD_eq_getElem?_getD, List.getElem?_replicate] at hu
    split at hu <;> simp at hu
  · simp only [bV, List.map_replicate]
    rfl
  rintro ⟨i, met, out, lab, vr, hr0⟩ ⟨hi, hB, hhr, hLt⟩
  dsimp only at hi hB hhr hLt ⊢
  by_cases hlt : i < N
  · have hmi := bV_get (l := met) (k := i) (by rw [hB.lm]; exact hlt)
    cases hmet : met.getD i false
    · rw [hmet] at hmi
      repeat' first
        | refine k_then ?_ | refine c_seq ?_ | refine c_region ?_ | refine s_nil ?_ | refine s_move (by exact rfl) (by exact rfl) ?_ | refine s_assign (by exact rfl) (by exact rfl) ?_ | refine s_lss (by exact rfl) (by exact rfl) (by exact rfl) ?_ | refine s_idx (by exact rfl) (by exact rfl) (by exact rfl) (by assumption) (by first | assumption | omega) ?_ | refine s_ld_row (by exact rfl) (by exact rfl) (by exact .head _) (by assumption) ?_ | refine c_block ?_ | refine c_skip ?_ | (refine c_cond_p (by exact rfl) (fun h => ?_) (fun h => ?_) <;> try (exfalso; omega)) | refine c_cond_f (by exact rfl) ?_
      refine o_st_row (i := 0) (by exact rfl) (by exact rfl) (by exact rfl) rfl (by omega) ?_
      repeat' first
        | refine k_then ?_ | refine c_seq ?_ | refine c_region ?_ | refine s_nil ?_ | refine s_move (by exact rfl) (by exact rfl) ?_
      rw [bV_set]
      refine o_mk [.int .i64 (i : Int)] (by exact rfl) (by exact rfl) rfl ?_ ?_ (by simp) fun vl0 hvl0 => ?_
      · simp [Value.cells]
      · simp
      repeat' first
        | refine k_then ?_ | refine c_seq ?_ | refine c_region ?_ | refine s_nil ?_ | refine s_assign (by exact rfl) (by exact rfl) ?_ | refine c_block ?_
      have hBs := hB.start hlt hmet
      have hP := Part.start hlt hB.lm hLt
      have hC := comps_step (N := N) (lab := lab) hmet hB.below
      generalize hcs : compsL N i met lab = cs at *
      clear hcs
      refine c_loop (fun x : Value × List Nat × Nat × List Bool × List Nat × (Nat → Nat) => x.2.2.1 ≤ x.2.1.length ∧ Bfs N (nb l) i x.2.2.2.1 x.2.2.2.2.1 x.2.2.2.2.2 (x.2.1.drop x.2.2.1) ∧ Part N i x.2.2.2.1 x.2.2.2.2.2 x.2.1 ∧ compsL N i x.2.2.2.1 x.2.2.2.2.2 = cs ∧ x.2.2.2.1.getD i false = true ∧ x.2.2.2.2.2 i = i)
        (fun x => [(2, vr), (3, va), (4, vm), (5, .int .i64 (i : Int)), (6, x.1), (7, .int .i64 (x.2.2.1 : Int)), (19, .int .i64 (N : Int)), (20, .int .i64 (i : Int))])
        (fun x => [rowHP x.1 3 1 x.2.1.length (nV x.2.1), rowHP vm 4 1 N (bV x.2.2.2.1), rowHP vr 41 1 cs.length hr0, starHP (kids rowN hr0 cs), rowHP va 64 1 N ha, starHP (kids rowA ha (arcsL N l))])
        (fun x => 2 * unmet x.2.2.2.1 + (x.2.1.length - x.2.2.1)) (vl0, [i], 0, met.set i true, out, fun x => if x = i then i else lab x) [0, 0, 0, 0, 0, 0] ⟨Nat.zero_le _, hBs, hP, hC, hBs.line_met i (by simp), by simp⟩ (by exact rfl) ⟨rfl, rfl, rfl, rfl, rfl, rfl, rfl, rfl, trivial⟩ ?_
      clear hBs hP hC hmi hmet hB hvl0 hLt
      clear vl0 out lab met
      rintro ⟨vp, part, at0, met, out, lab⟩ ⟨hat, hB, hP, hC, hmi, hli⟩
      dsimp only at hat hB hP hC hmi hli ⊢
      refine know_row (v := vp) (.head _) fun hvp _ => ?_
      have hpl := hP.length_le
      by_cases hal0 : at0 < part.length
      · obtain ⟨x, hx⟩ : ∃ x, part[at0]? = some x := ⟨_, List.getElem?_eq_getElem hal0⟩
        have hdrop : part.drop at0 = x :: part.drop (at0 + 1) := by
          obtain ⟨h1, h2⟩ := List.getElem?_eq_some_iff.1 hx
          rw [List.drop_eq_getElem_cons h1, h2]
        rw [hdrop] at hB
        have hxN := hB.line_lt x (by simp)
        have hAx := hal x
        have hx0 : (nV part)[at0 * 1]? = some (.int .i64 (x : Int)) := by simp [nV, hx]
        obtain ⟨hd, hhd⟩ : ∃ hd, ha[x * 1]? = some hd := ⟨_, List.getElem?_eq_getElem (by omega)⟩
        have hK : rowHP hd 66 2 (ab l x).length (aV (ab l x)) ∈ kids rowA ha (arcsL N l) := kids_mem (f := rowA) (k := x) (by simpa using hhd) (arcs_get hxN)
        refine know_kid (Ks := kids rowA ha (arcsL N l)) (.tail _ (.tail _ (.tail _ (.tail _ (.tail _ (.head _)))))) hK fun hhs _ => ?_
        repeat' first
          | refine k_then ?_ | refine c_seq ?_ | refine c_region ?_ | refine s_nil ?_ | refine s_move (by exact rfl) (by exact rfl) ?_ | refine s_lss (by exact rfl) (by exact rfl) (by exact rfl) ?_ | refine s_len (by exact rfl) (by exact rfl) (by assumption) ?_ | refine s_idx (by exact rfl) (by exact rfl) (by exact rfl) (by assumption) (by first | assumption | omega) ?_ | refine s_ld_row (by exact rfl) (by exact rfl) (by first | exact .head _ | exact .tail _ (.tail _ (.tail _ (.tail _ (.head _))))) (by assumption) ?_ | refine c_block ?_ | refine c_skip ?_ | (refine c_cond_p (by exact rfl) (fun h => ?_) (fun h => ?_) <;> try (exfalso; omega))
        refine c_loop (fun y : Nat × Value × List Nat × List Bool × List Nat × (Nat → Nat) => y.1 ≤ (ab l x).length ∧ Bfs N (nb l) i y.2.2.2.1 y.2.2.2.2.1 y.2.2.2.2.2 (x :: y.2.2.1.drop (at0 + 1)) ∧ Seen (nb l) i y.2.2.2.1 y.2.2.2.2.1 y.2.2.2.2.2 x y.1 ∧ Part N i y.2.2.2.1 y.2.2.2.2.2 y.2.2.1 ∧ compsL N i y.2.2.2.1 y.2.2.2.2.2 = cs ∧ y.2.2.2.1.getD i false = true ∧ y.2.2.2.2.2 i = i ∧ at0 < y.2.2.1.length ∧ 2 * unmet y.2.2.2.1 + y.2.2.1.length ≤ 2 * unmet met + part.length)
          (fun y => [(2, vr), (3, va), (4, vm), (5, .int .i64 (i : Int)), (6, y.2.1), (7, .int .i64 (at0 : Int)), (19, .int .i64 (N : Int)), (20, .int .i64 (i : Int)), (44, hd), (45, .int .i64 ((ab l x).length : Int)), (46, .int .i64 (y.1 : Int))])
          (fun y => [rowHP y.2.1 3 1 y.2.2.1.length (nV y.2.2.1), rowHP vm 4 1 N (bV y.2.2.2.1), rowHP vr 41 1 cs.length hr0, starHP (kids rowN hr0 cs), rowHP va 64 1 N ha, starHP (kids rowA ha (arcsL N l))])
          (fun y => (ab l x).length - y.1) (0, vp, part, met, out, lab) [0, 0, 0, 0, 0, 0] ⟨Nat.zero_le _, hB, fun u hu => by simp at hu, hP, hC, hmi, hli, hal0, Nat.le_refl _⟩ (by exact rfl) ⟨rfl, rfl, rfl, rfl, rfl, rfl, rfl, rfl, rfl, rfl, rfl, trivial⟩ ?_
        clear hB hP hC hx0 hvp hmi hli
        rintro ⟨j, vq, part2, met2, out2, lab2⟩ ⟨hj, hB, hS, hP, hC, hmi, hli, hat2, hM2⟩
        dsimp only at hj hB hS hP hC hmi hli hat2 hM2 ⊢
        refine know_row (v := vq) (.head _) fun hvq _ => ?_
        have hpl2 := hP.length_le
        by_cases hjl : j < (ab l x).length
        · obtain ⟨a, hja⟩ : ∃ a, (ab l x)[j]? = some a := ⟨_, List.getElem?_eq_getElem hjl⟩
          have hu : (nb l x)[j]? = some a.1 := by rw [← ab_fst, List.getElem?_map, hja]; rfl
          have hun := hA.lt x hxN a.1 (List.mem_of_getElem? hu)
          have hju := aV_at hja
          have hmu := bV_get (l := met2) (k := a.1) (by rw [hB.lm]; exact hun)
          cases hmet : met2.getD a.1 false
          · rw [hmet] at hmu
            have hum := unmet_set (by rw [hB.lm]; exact hun) hmet
            obtain ⟨hB2, hS2⟩ := hB.new hA hS hu hmet
            have hP2 := hP.new hun hB.lm hmet
            have hC2 := comps_step (N := N) (lab := lab2) hmet hB.below
            repeat' first
              | refine k_then ?_ | refine c_seq ?_ | refine c_region ?_ | refine s_nil ?_ | refine s_lss (by exact rfl) (by exact rfl) (by exact rfl) ?_ | refine s_idx (by exact rfl) (by exact rfl) (by exact rfl) (by assumption) (by first | assumption | omega) ?_ | refine s_ldk_kid (by exact rfl) (by exact rfl) (by assumption) (by exact .tail _ (.tail _ (.tail _ (.tail _ (.tail _ (.head _)))))) (by decide) (by assumption) (by exact rfl) ?_ | refine o_alloc (by exact rfl) (fun b => ?_) | refine c_block ?_ | refine c_skip ?_ | (refine c_cond_p (by exact rfl) (fun h => ?_) (fun h => ?_) <;> try (exfalso; omega))
            refine o_stk_box (i := 0) (us := [.int .i64 (a.1 : Int), .int .i64 (a.2 : Int)]) (by exact rfl) (by exact rfl) (by exact rfl) (by exact rfl) (by exact rfl) (by simp [Value.oneCell']) (by simp [Value.cells]) ?_
            repeat' first
              | refine k_then ?_ | refine c_seq ?_ | refine c_region ?_ | refine s_nil ?_ | refine s_move (by exact rfl) (by exact rfl) ?_ | refine s_fa (by exact rfl) (by exact rfl) ?_ | refine s_ld_box (by exact rfl) (by exact rfl) (by exact .head _) (by exact rfl) ?_ | refine s_not (by exact rfl) (by exact rfl) ?_ | refine s_idx (by exact rfl) (by exact rfl) (by exact rfl) (by assumption) (by first | assumption | omega) ?_ | refine s_ld_row (by exact rfl) (by exact rfl) (by exact .tail _ (.tail _ (.head _))) (by assumption) ?_ | refine c_cond_t (by exact rfl) ?_
            refine o_st_row (i := 2) (by exact rfl) (by exact rfl) (by exact rfl) rfl (by omega) ?_
            repeat' first
              | refine k_then ?_ | refine c_region ?_ | refine s_nil ?_ | refine s_move (by exact rfl) (by exact rfl) ?_ | refine s_fa (by exact rfl) (by exact rfl) ?_ | refine s_ld_box (by exact rfl) (by exact rfl) (by exact .head _) (by exact rfl) ?_
            rw [bV_set]
            refine o_mk [.int .i64 (a.1 : Int)] (by exact rfl) (by exact rfl) rfl ?_ ?_ (by simp) fun vt hvt => ?_
            · simp [Value.cells]
            · simp
            skip
            refine o_append_row (i := 2) (by exact rfl) (by exact rfl) (by exact rfl) (by exact rfl) (by exact .head _) (by exact rfl) (by simp [Value.cells, Value.oneCell']) ?_ fun vl2 hvl2 => ?_
            · omega
            repeat' first
              | refine k_then ?_ | refine c_region ?_ | refine s_nil ?_ | refine s_move (by exact rfl) (by exact rfl) ?_ | refine s_assign (by exact rfl) (by exact rfl) ?_ | refine s_add (by exact rfl) (by exact rfl) (by exact rfl) (by omega) ?_ | refine k_blk ?_
            refine c_round (j + 1, vl2, part2 ++ [a.1], met2.set a.1 true, out2.set a.1 (out2.getD x 0 + 1), fun z => if z = a.1 then i else lab2 z) [2, 2, 2, 2, 2, 2] ?_ (by exact ⟨rfl, rfl, rfl, rfl, rfl, rfl, rfl, rfl, rfl, rfl, rfl, trivial⟩) ⟨by omega, ?_, hS2, hP2, by rw [hC2]; exact hC, ?_, ?_, ?_, ?_⟩ (by dsimp only; omega)
            · show pick [_, _, _, _, _, _, _, _] [2, 2, 2, 2, 2, 2] = some [_, _, _, _, _, _]
              have e1 : rowHP vl2 3 1 (part2.length + 1) (nV part2 ++ [Value.int .i64 (a.1 : Int)]) = rowHP vl2 3 1 (part2 ++ [a.1]).length (nV (part2 ++ [a.1])) := by simp [nV]
              rw [← e1]
              rfl
            · dsimp only
              rw [List.drop_append_of_le_length (by omega)]
              exact hB2
            · dsimp only
              rw [getD_set]
              split
              · rfl
              · exact hmi
            · dsimp only
              split
              · rfl
              · exact hli
            · simp; omega
            · simp only [List.length_append, List.length_singleton]
              omega
          · rw [hmet] at hmu
            repeat' first
              | refine k_then ?_ | refine c_seq ?_ | refine c_region ?_ | refine s_nil ?_ | refine s_lss (by exact rfl) (by exact rfl) (by exact rfl) ?_ | refine s_idx (by exact rfl) (by exact rfl) (by exact rfl) (by assumption) (by first | assumption | omega) ?_ | refine s_ldk_kid (by exact rfl) (by exact rfl) (by assumption) (by exact .tail _ (.tail _ (.tail _ (.tail _ (.tail _ (.head _)))))) (by decide) (by assumption) (by exact rfl) ?_ | refine o_alloc (by exact rfl) (fun b => ?_) | refine c_block ?_ | refine c_skip ?_ | (refine c_cond_p (by exact rfl) (fun h => ?_) (fun h => ?_) <;> try (exfalso; omega))
            refine o_stk_box (i := 0) (us := [.int .i64 (a.1 : Int), .int .i64 (a.2 : Int)]) (by exact rfl) (by exact rfl) (by exact rfl) (by exact rfl) (by exact rfl) (by simp [Value.oneCell']) (by simp [Value.cells]) ?_
            repeat' first
              | refine k_then ?_ | refine c_seq ?_ | refine c_region ?_ | refine s_nil ?_ | refine s_move (by exact rfl) (by exact rfl) ?_ | refine s_fa (by exact rfl) (by exact rfl) ?_ | refine s_ld_box (by exact rfl) (by exact rfl) (by exact .head _) (by exact rfl) ?_ | refine s_add (by exact rfl) (by exact rfl) (by exact rfl) (by omega) ?_ | refine s_not (by exact rfl) (by exact rfl) ?_ | refine s_idx (by exact rfl) (by exact rfl) (by exact rfl) (by assumption) (by first | assumption | omega) ?_ | refine s_ld_row (by exact rfl) (by exact rfl) (by exact .tail _ (.tail _ (.head _))) (by assumption) ?_ | refine c_skip ?_ | refine k_blk ?_ | refine c_cond_f (by exact rfl) ?_
            refine c_round (j + 1, vq, part2, met2, out2, lab2) [1, 1, 1, 1, 1, 1] (by exact rfl) (by exact ⟨rfl, rfl, rfl, rfl, rfl, rfl, rfl, rfl, rfl, rfl, rfl, trivial⟩) ⟨by omega, hB, hB.old hA hS hu hmet, hP, hC, hmi, hli, hat2, hM2⟩ (by dsimp only; omega)
        · obtain rfl : j = (ab l x).length := by omega
          repeat' first
            | refine k_then ?_ | refine c_seq ?_ | refine c_region ?_ | refine s_nil ?_ | refine s_move (by exact rfl) (by exact rfl) ?_ | refine s_assign (by exact rfl) (by exact rfl) ?_ | refine s_lss (by exact rfl) (by exact rfl) (by exact rfl) ?_ | refine s_add (by exact rfl) (by exact rfl) (by exact rfl) (by omega) ?_ | refine c_exit ?_ | refine k_then_exit ?_ | refine k_blk ?_ | refine k_blk_eq ?_ | (refine c_cond_p (by exact rfl) (fun h => ?_) (fun h => ?_) <;> try (exfalso; omega))
          have hnl : (nb l x).length = (ab l x).length := by rw [← ab_fst, List.length_map]
          refine c_round (vq, part2, at0 + 1, met2, out2, lab2) [0, 0, 0, 0, 0, 0] (by exact rfl) (by exact ⟨rfl, rfl, rfl, rfl, rfl, rfl, rfl, rfl, trivial⟩) ⟨by dsimp only; omega, hB.pop (by rw [hnl]; exact hS), hP, hC, hmi, hli⟩ (by dsimp only; omega)
      · repeat' first
          | refine k_then ?_ | refine c_seq ?_ | refine c_region ?_ | refine s_nil ?_ | refine s_move (by exact rfl) (by exact rfl) ?_ | refine s_lss (by exact rfl) (by exact rfl) (by exact rfl) ?_ | refine s_len (by exact rfl) (by exact rfl) (by assumption) ?_ | refine c_exit ?_ | refine k_then_exit ?_ | refine k_blk_eq ?_ | (refine c_cond_p (by exact rfl) (fun h => ?_) (fun h => ?_) <;> try (exfalso; omega))
        have hdn : part.drop at0 = [] := List.drop_eq_nil_of_le (by omega)
        rw [hdn] at hB
        have hca := comps_add (N := N) hli hP.nodup hP.mem
        have hcl := compsL_length N i met lab
        rw [hC] at hca hcl
        refine s_lend [rowHP vp 3 1 part.length (nV part)] _ (by exact rfl) (by exact rfl) (by exact rfl) (fun w S h => nsort_row (sats_mem h.own (.head _)) (by omega)) ?_
        rintro _ _ ⟨rfl, rfl⟩
        repeat' first
          | refine k_then ?_ | refine c_region ?_ | refine s_nil ?_ | refine s_move (by exact rfl) (by exact rfl) ?_
        refine o_mk [vp] (by exact rfl) (by exact rfl) rfl ?_ ?_ (by simp) fun vt hvt => ?_
        · intro u hu
          obtain rfl : u = vp := by simpa using hu
          rw [← Array.length_toList, one_cells hvp.one]; rfl
        · simp
        rw [show ([vp].flatMap fun u => u.cells.toList) = [vp] from by simp [one_cells hvp.one]]
        skip
        refine o_append_row (i := 3) (by exact rfl) (by exact rfl) (by exact rfl) (by exact rfl) (by exact .head _) (by exact rfl) (by simp [hvp.one]) ?_ fun vr2 hvr2 => ?_
        · omega
        repeat' first
          | refine k_then ?_ | refine c_region ?_ | refine s_nil ?_ | refine s_move (by exact rfl) (by exact rfl) ?_ | refine s_assign (by exact rfl) (by exact rfl) ?_ | refine s_add (by exact rfl) (by exact rfl) (by exact rfl) (by omega) ?_ | refine k_blk ?_
        have e1 : rowHP vp 3 1 part.length (nV (part.mergeSort fun x y => decide (x ≤ y))) = rowN vp (part.mergeSort fun x y => decide (x ≤ y)) := by simp [rowN]
        refine c_pick [1, 1, 1, 1, 1, 1] (by exact rfl) ?_
        rw [e1]
        refine c_pushk 2 (by exact rfl) ?_
        refine c_round (i + 1, met, out, lab, vr2, hr0 ++ [vp]) [0, 0, 0, 0, 0] ?_ (by exact ⟨rfl, rfl, rfl, rfl, rfl, trivial⟩) ⟨by omega, hB.next hmi, ?_, fun u hu => by have := hP.le u hu; dsimp only; omega⟩ (by dsimp only; omega)
        · dsimp only
          rw [hca, kids_append hhr, List.length_append]
          rfl
        · dsimp only
          rw [hca, List.length_append, List.length_append, hhr]
          rfl
    · rw [hmet] at hmi
      repeat' first
        | refine k_then ?_ | refine c_seq ?_ | refine c_region ?_ | refine s_nil ?_ | refine s_move (by exact rfl) (by exact rfl) ?_ | refine s_assign (by exact rfl) (by exact rfl) ?_ | refine s_lss (by exact rfl) (by exact rfl) (by exact rfl) ?_ | refine s_add (by exact rfl) (by exact rfl) (by exact rfl) (by omega) ?_ | refine s_idx (by exact rfl) (by exact rfl) (by exact rfl) (by assumption) (by first | assumption | omega) ?_ | refine s_ld_row (by exact rfl) (by exact rfl) (by exact .head _) (by assumption) ?_ | refine c_block ?_ | refine c_skip ?_ | refine c_exit ?_ | refine k_then_exit ?_ | refine k_blk_eq ?_ | (refine c_cond_p (by exact rfl) (fun h => ?_) (fun h => ?_) <;> try (exfalso; omega)) | refine c_cond_t (by exact rfl) ?_
      have hne : lab i ≠ i := by have := hLt i hmet; omega
      have hcn := comps_next (N := N) (met := met) hne
      refine c_round (i + 1, met, out, lab, vr, hr0) [0, 0, 0, 0, 0] (by dsimp only; rw [hcn]; rfl) (by exact ⟨rfl, rfl, rfl, rfl, rfl, trivial⟩) ⟨by omega, hB.next hmet, by dsimp only; rw [hcn]; exact hhr, fun u hu => by have := hLt u hu; dsimp only; omega⟩ (by dsimp only; omega)
  · repeat' first
      | refine k_then ?_ | refine c_seq ?_ | refine c_region ?_ | refine s_nil ?_ | refine s_move (by exact rfl) (by exact rfl) ?_ | refine s_assign (by exact rfl) (by exact rfl) ?_ | refine s_lss (by exact rfl) (by exact rfl) (by exact rfl) ?_ | refine c_exit ?_ | refine c_ret ?_ | refine k_then_exit ?_ | refine k_blk_eq ?_ | (refine c_cond_p (by exact rfl) (fun h => ?_) (fun h => ?_) <;> try (exfalso; omega))
    obtain rfl : i = N := by omega
    refine ret1 [1, 1] rfl rfl rfl ⟨met, out, lab, hr0, hB, hhr, rfl⟩
end Go.Proofs.YtpajjnkmaebhcaaGreat
end
section
set_option linter.unusedVariables false
namespace Go.Sl
open Go Go.RowKit
section
variable {P : Program} {w0 : World} {S0 : FS} {n : Nat} {F : List (Nat × Value)} {L Lk : List HP} {ops : Array Oper} {Q : Exit → Act → World → Prop} {plan : List PI}
theorem RP.weaken {G : List (Nat × Value)} {M : List HP} (is : List Nat) (hL : pick L is = some M) (hF : covers F G) (h : RP P w0 S0 n ops Q Lk plan G M) : RP P w0 S0 n ops Q Lk plan F L := Reach.weaken is hL hF h
/-- orders that come to one state -/
theorem p_join {X : Type} (rest : List PI) (FX : X → List (Nat × Value)) (LX : X → List HP) (h : (∀ x, RP P w0 S0 n ops Q Lk rest (FX x) (LX x)) → RP P w0 S0 n ops Q Lk plan F L) (hk : ∀ x, RP P w0 S0 n ops Q Lk rest (FX x) (LX x)) : RP P w0 S0 n ops Q Lk plan F L := h hk
/-- ways that come to one state -/
theorem c_join {X : Type} {c : Code} {K : Act → World → Prop} (FX : X → List (Nat × Value)) (LX : X → List HP) (h : ∀ K : Act → World → Prop, (∀ x, Reach w0 S0 n (FX x) (LX x) K) → Reach w0 S0 n F L (c.wp P (Exit.then K Q))) (hk : ∀ x, Reach w0 S0 n (FX x) (LX x) K) : Reach w0 S0 n F L (c.wp P (Exit.then K Q)) := h K hk
theorem j_end {X : Type} {K : Act → World → Prop} {FX : X → List (Nat × Value)} {LX : X → List HP} (hk : ∀ x, Reach w0 S0 n (FX x) (LX x) K) (x : X) (is : List Nat) (hL : pick L is = some (LX x)) (hF : covers F (FX x)) : Reach w0 S0 n F L K := Reach.weaken is hL hF (hk x)
theorem pj_end {X : Type} {FX : X → List (Nat × Value)} {LX : X → List HP} (hk : ∀ x, RP P w0 S0 n ops Q Lk plan (FX x) (LX x)) (x : X) (is : List Nat) (hL : pick L is = some (LX x)) (hF : covers F (FX x)) : RP P w0 S0 n ops Q Lk plan F L := Reach.weaken is hL hF (hk x)
end
end Go.Sl
end
section
set_option linter.unusedVariables false
namespace Fil
theorem getD_setN (l : List Nat) (i x j : Nat) : (l.set i x).getD j 0 = if i = j ∧ i < l.length then x else l.getD j 0 := by
  rw [List.getD_eq_getElem?_getD, List.getElem?_set, List.getD_eq_getElem?_getD]
  by_cases h : i = j
  · subst h
    rw [if_pos rfl]
    by_cases h2 : i < l.length
    · rw [if_pos h2, if_pos ⟨rfl, h2⟩]; rfl
    · rw [if_neg h2, if_neg (fun h => h2 h.2), List.getElem?_eq_none (by omega)]
  · rw [if_neg h, if_neg (fun h' => h h'.1)]
theorem flat_le {α : Type} : ∀ {C : List (List α)}, (∀ l ∈ C, l ≠ []) → C.length ≤ C.flatten.length
  | [], _ => Nat.le_refl _
  | l :: C, h => by
    have h1 := flat_le (C := C) fun l hl => h l (.tail _ hl)
    have h2 := List.length_pos_iff.2 (h l (.head _))
    rw [List.flatten_cons, List.length_append, List.length_cons]; omega
end Fil
namespace Go.Sl
open Go Go.RowKit Fil
theorem iV_set (l : List Int) (k : Nat) (x : Int) : (iV l).set (k * 1) (.int .i64 x) = iV (l.set k x) := by rw [Nat.mul_one, iV, iV, List.map_set]
end Go.Sl
namespace Go.Proofs.YtpajjnkmaebhcaaGreat
open Go.RowKit Go.Sl Fil
set_option maxRecDepth 100000
set_option maxHeartbeats 8000000
set_option linter.unusedVariables false
set_option linter.unusedSimpArgs false
attribute [local irreducible] Code.wp wpList bodyPost wpQuiet Exit.then Exit.inBlock Post wpAnyH wpOp
theorem rotEuler_ok (n : Int) (v : Value) (es : List E) (vr : Value) (hr0 : List Value) (R : List (List Nat)) (w : World) (hs : Shp v es.length) (hr : RO w No v (esV es)) (hG : RightG n es) (hR : ROs w No vr hr0 R) (hRot : RotL n.toNat (tn es) R) :
    Calls Tryz.prog 29 #[.agg #[.int .i64 n, v], vr] w (Post w No fun r L' => ∃ (vo : Value) (o lab : Nat → Nat), Lev n.toNat (nb (tn es)) o lab ∧ r = .tuple #[vo, .int .i64 0] ∧ L' = [rowHP vo 3 1 (compsS n.toNat lab).length (iV (eulerL n.toNat (tn es) lab (facesR n.toNat (tn es) R)))]) := by
  have hsr := hR.shp
  have hrr := hR.ro
  have hlo := hG.lo
  have hhi := hG.hi
  have hmany := hG.many
  have hRl := hRot.len
  refine enter0 (vs := [_, _]) Tryz.func29 rfl Tryz.ntmps29 rfl ?_
  repeat' first
    | refine k_then ?_ | refine c_seq ?_ | refine c_region ?_ | refine s_nil ?_ | refine s_move (by exact rfl) (by exact rfl) ?_ | refine s_assign (by exact rfl) (by exact rfl) ?_ | refine s_ldk_box (by exact rfl) (by exact rfl) (by exact .head _) (by exact rfl) (by exact rfl) ?_ | refine o_box (by exact rfl) (by exact rfl) (fun b => ?_)
  refine o_call (by exact rfl) (by exact rfl) (fun w h => rotFaces_ok n v es vr hr0 R w hs (ro_old h hr) hG (ros_old h hR) hRot) ?_
  rintro _ _ ⟨vf, hf, rfl, hfl, rfl⟩
  repeat' first
    | refine k_then ?_ | refine c_seq ?_ | refine c_region ?_ | refine s_nil ?_ | refine s_move (by exact rfl) (by exact rfl) ?_ | refine s_assign (by exact rfl) (by exact rfl) ?_ | refine s_fa (by exact rfl) (by exact rfl) ?_ | refine s_ld_box (by exact rfl) (by exact rfl) (by exact .tail _ (.tail _ (.head _))) (by exact rfl) ?_ | refine s_neq (by exact rfl) (by exact rfl) (by exact rfl) ?_ | refine s_extract (by exact rfl) (by exact rfl) (by exact rfl) ?_ | refine c_skip ?_ | (refine c_cond_p (by exact rfl) (fun h => ?_) (fun h => ?_) <;> try (exfalso; omega))
  refine o_make (by exact rfl) (by exact rfl) (by exact rfl) (by omega) (by omega) fun vm hvm => ?_
  repeat' first
    | refine k_then ?_ | refine c_seq ?_ | refine c_region ?_ | refine s_nil ?_ | refine s_assign (by exact rfl) (by exact rfl) ?_ | refine s_ldk_box (by exact rfl) (by exact rfl) (by exact .tail _ (.tail _ (.tail _ (.head _)))) (by exact rfl) (by exact rfl) ?_
  refine o_call (by exact rfl) (by exact rfl) (fun w h => Components_ok n v es w hs (ro_old h hr) hG) ?_
  rintro vc _ ⟨met, bout, lab, hc, hB, hcl, rfl⟩
  have hLev := hB.lev
  rw [hB.comps] at hcl ⊢
  have hone : ∀ u, u < n.toNat → ∃ a c, (compsS n.toNat lab)[a]? = some c ∧ u ∈ c ∧ ∀ (b : Nat) x, (compsS n.toNat lab)[b]? = some x → (u ∈ x ↔ b = a) := fun u hu => comp_one hLev hu
  have hcN : (compsS n.toNat lab).length ≤ n.toNat := compsI_length _ _ lab
  have hcl2 : ∀ c ∈ compsS n.toNat lab, c.length ≤ n.toNat ∧ ∀ u ∈ c, u < n.toNat := fun c hc => by
    obtain ⟨r, h1, h2, rfl⟩ := comp_mem hc
    refine ⟨by have := List.length_filter_le (fun u => lab u == r) (List.range n.toNat); simpa using this, fun u hu => ?_⟩
    simpa using (List.mem_filter.1 hu).1
  have hdec := facesR_dec hG hRot
  have hFne : ∀ f ∈ facesR n.toNat (tn es) R, ∃ d t, f = d :: t ∧ d.1 < n.toNat := fun f hf => by
    cases f with
    | nil => exact absurd rfl (hdec.cy _ hf).1
    | cons d t => exact ⟨d, t, rfl, (dart_lt hG (hdec.perm.mem_iff.1 (List.mem_flatten.2 ⟨_, hf, .head _⟩))).1⟩
  have hFl : (facesR n.toNat (tn es) R).length ≤ 2 * es.length := by
    have h1 := flat_le (C := facesR n.toNat (tn es) R) fun f hf => (hdec.cy f hf).1
    have h2 := hdec.perm.length_eq
    rw [dartsAll_length hG] at h2
    omega
  generalize facesR n.toNat (tn es) R = Fs at *
  generalize hcs : compsS n.toNat lab = cs at *
  refine know_row (v := vc) (.head _) fun hvc _ => ?_
  refine know_row (v := vf) (by exact .tail _ (.tail _ (.tail _ (.head _)))) fun hvf _ => ?_
  repeat' first
    | refine k_then ?_ | refine c_seq ?_ | refine c_region ?_ | refine s_nil ?_ | refine s_move (by exact rfl) (by exact rfl) ?_ | refine s_assign (by exact rfl) (by exact rfl) ?_ | refine s_len (by exact rfl) (by exact rfl) (by assumption) ?_
  refine o_make (by exact rfl) (by exact rfl) (by exact rfl) (by omega) (by omega) fun vo hvo => ?_
  repeat' first
    | refine k_then ?_ | refine c_seq ?_ | refine c_region ?_ | refine s_nil ?_ | refine s_move (by exact rfl) (by exact rfl) ?_ | refine s_assign (by exact rfl) (by exact rfl) ?_ | refine s_len (by exact rfl) (by exact rfl) (by assumption) ?_ | refine c_block ?_
  generalize hN : n.toNat = N at *
  have hnN : n = (N : Int) := by omega
  refine c_loop (fun x : Nat × List Nat => x.1 ≤ cs.length ∧ x.2.length = N ∧ ∀ (a : Nat) c, cs[a]? = some c → a < x.1 → ∀ u ∈ c, x.2.getD u 0 = a)
    (fun x => [(2, .pointer (some ⟨b, 0, none⟩)), (6, vf), (8, vm), (9, vc), (10, vo), (36, vc), (37, .int .i64 (cs.length : Int)), (38, .int .i64 (x.1 : Int))])
    (fun x => [rowHP vo 3 1 cs.length (iV (baseL cs x.1)), rowHP vm 3 1 N (nV x.2), rowHP vc 41 1 cs.length hc, starHP (kids rowN hc cs), rowHP vf 77 1 Fs.length hf, starHP (kids rowD hf Fs), boxHP b 24 [.int .i64 n, v]])
    (fun x => cs.length - x.1) (0, List.replicate N 0) [0, 2, 0, 0, 0, 0, 0] ⟨Nat.zero_le _, by simp, fun a c _ h => by simp at h⟩ ?_ ⟨rfl, rfl, rfl, rfl, rfl, rfl, rfl, rfl, trivial⟩ ?_
  · have z1 : (madeCells (Value.int .i64 0).cells (N * 1)).toList = nV (List.replicate N 0) := by rw [made1 rfl]; simp [nV]
    have z2 : (madeCells (Value.int .i64 0).cells ((cs.length : Int).toNat * 1)).toList = iV (baseL cs 0) := by rw [made1 rfl, baseL_zero]; simp [iV]
    rw [z1, z2]
    exact rfl
  rintro ⟨i, y⟩ ⟨hi, hyl, hy⟩
  dsimp only at hi hyl hy ⊢
  by_cases hil : i < cs.length
  · obtain ⟨c, hci⟩ : ∃ c, cs[i]? = some c := ⟨_, List.getElem?_eq_getElem hil⟩
    obtain ⟨hd, hhd⟩ : ∃ hd, hc[i]? = some hd := ⟨_, List.getElem?_eq_getElem (by omega)⟩
    have hhd1 : hc[i * 1]? = some hd := by rw [Nat.mul_one]; exact hhd
    obtain ⟨hcl3, hclt⟩ := hcl2 c (List.mem_of_getElem? hci)
    have hbs := baseL_set hci
    have hbl := baseL_length hi
    have hkd : rowHP hd 3 1 c.length (nV c) ∈ kids rowN hc cs := kids_mem (f := rowN) hhd hci
    repeat' first
      | refine k_then ?_ | refine c_seq ?_ | refine c_region ?_ | refine s_nil ?_ | refine s_move (by exact rfl) (by exact rfl) ?_ | refine s_assign (by exact rfl) (by exact rfl) ?_ | refine s_lss (by exact rfl) (by exact rfl) (by exact rfl) ?_ | refine s_idx (by exact rfl) (by exact rfl) (by exact rfl) (by assumption) (by first | assumption | omega) ?_ | refine s_ld_row (by exact rfl) (by exact rfl) (by exact .tail _ (.tail _ (.head _))) (by assumption) ?_ | refine c_block ?_ | refine c_skip ?_ | (refine c_cond_p (by exact rfl) (fun h => ?_) (fun h => ?_) <;> try (exfalso; omega))
    refine know_kid (by exact .tail _ (.tail _ (.tail _ (.head _)))) hkd fun hsd _ => ?_
    repeat' first
      | refine s_len (by exact rfl) (by exact rfl) (by assumption) ?_ | refine s_idx (by exact rfl) (by exact rfl) (by exact rfl) (by assumption) (by first | assumption | omega) ?_
    refine o_st_row (i := 0) (by exact rfl) (by exact rfl) (by exact rfl) rfl (by omega) ?_
    rw [iV_set]
    refine s_nil ?_
    refine k_then ?_
    refine c_seq ?_
    refine c_join (X := Unit) (fun _ => [(2, .pointer (some ⟨b, 0, none⟩)), (6, vf), (8, vm), (9, vc), (10, vo), (11, .int .i64 (i : Int)), (12, hd), (36, vc), (37, .int .i64 (cs.length : Int)), (38, .int .i64 (i : Int))]) (fun _ => [rowHP vo 3 1 cs.length (iV (baseL cs (i + 1))), rowHP vm 3 1 N (nV y), rowHP vc 41 1 cs.length hc, starHP (kids rowN hc cs), rowHP vf 77 1 Fs.length hf, starHP (kids rowD hf Fs), boxHP b 24 [.int .i64 n, v]]) (fun K hk => ?_) (fun _ => ?_)
    · repeat' first
        | refine k_then ?_ | refine c_seq ?_ | refine c_region ?_ | refine s_nil ?_ | refine s_move (by exact rfl) (by exact rfl) ?_ | refine s_eql (by exact rfl) (by exact rfl) (by exact rfl) ?_ | refine s_len (by exact rfl) (by exact rfl) (by assumption) ?_ | refine s_idx (by exact rfl) (by exact rfl) (by exact rfl) (by assumption) (by first | assumption | omega) ?_ | refine c_skip ?_ | (refine c_cond_p (by exact rfl) (fun h => ?_) (fun h => ?_) <;> try (exfalso; omega))
      · refine o_st_row (i := 0) (by exact rfl) (by exact rfl) (by exact rfl) rfl (by omega) ?_
        rw [iV_set]
        repeat' first
          | refine k_then ?_ | refine s_nil ?_
        refine j_end hk () [0, 0, 0, 0, 0, 0, 0] ?_ ⟨rfl, rfl, rfl, rfl, rfl, rfl, rfl, rfl, rfl, rfl, trivial⟩
        rw [← hbs, baseK, if_pos (by omega), show ((baseL cs i).set i (c.length : Int)).set i 2 = (baseL cs i).set i 2 from List.set_set ..]
        exact rfl
      · refine j_end hk () [0, 0, 0, 0, 0, 0, 0] ?_ ⟨rfl, rfl, rfl, rfl, rfl, rfl, rfl, rfl, rfl, rfl, trivial⟩
        rw [← hbs, baseK, if_neg (by omega)]
        exact rfl
    · repeat' first
        | refine k_then ?_ | refine c_seq ?_ | refine c_region ?_ | refine s_nil ?_ | refine s_move (by exact rfl) (by exact rfl) ?_ | refine s_len (by exact rfl) (by exact rfl) (by assumption) ?_ | refine c_block ?_
      refine c_loop (fun x : Nat × List Nat => x.1 ≤ c.length ∧ x.2.length = N ∧ (∀ (a : Nat) c', cs[a]? = some c' → a < i → ∀ u ∈ c', x.2.getD u 0 = a) ∧ ∀ u ∈ c.take x.1, x.2.getD u 0 = i)
        (fun x => [(2, .pointer (some ⟨b, 0, none⟩)), (6, vf), (8, vm), (9, vc), (10, vo), (11, .int .i64 (i : Int)), (36, vc), (37, .int .i64 (cs.length : Int)), (38, .int .i64 (i : Int)), (54, hd), (55, .int .i64 (c.length : Int)), (56, .int .i64 (x.1 : Int))])
        (fun x => [rowHP vo 3 1 cs.length (iV (baseL cs (i + 1))), rowHP vm 3 1 N (nV x.2), rowHP vc 41 1 cs.length hc, starHP (kids rowN hc cs), rowHP vf 77 1 Fs.length hf, starHP (kids rowD hf Fs), boxHP b 24 [.int .i64 n, v]])
        (fun x => c.length - x.1) (0, y) [0, 0, 0, 0, 0, 0, 0] ⟨Nat.zero_le _, hyl, hy, by simp⟩ (by exact rfl) ⟨rfl, rfl, rfl, rfl, rfl, rfl, rfl, rfl, rfl, rfl, rfl, rfl, trivial⟩ ?_
      rintro ⟨j, z⟩ ⟨hj, hzl, hz1, hz2⟩
      dsimp only at hj hzl hz1 hz2 ⊢
      by_cases hjl : j < c.length
      · have hcj := nV_get hjl
        have hcm : c.getD j 0 ∈ c := by rw [List.getD_eq_getElem?_getD, List.getElem?_eq_getElem hjl]; exact List.getElem_mem _
        have hcu := hclt _ hcm
        repeat' first
          | refine k_then ?_ | refine c_seq ?_ | refine c_region ?_ | refine s_nil ?_ | refine s_move (by exact rfl) (by exact rfl) ?_ | refine s_assign (by exact rfl) (by exact rfl) ?_ | refine s_lss (by exact rfl) (by exact rfl) (by exact rfl) ?_ | refine s_idx (by exact rfl) (by exact rfl) (by exact rfl) (by assumption) (by first | assumption | omega) ?_ | refine s_ld_kid (by exact rfl) (by exact rfl) (by assumption) (by exact .tail _ (.tail _ (.tail _ (.head _)))) (by assumption) ?_ | refine c_block ?_ | refine c_skip ?_ | (refine c_cond_p (by exact rfl) (fun h => ?_) (fun h => ?_) <;> try (exfalso; omega))
        refine o_st_row (i := 1) (by exact rfl) (by exact rfl) (by exact rfl) rfl (by omega) ?_
        rw [nV_set]
        repeat' first
          | refine k_then ?_ | refine c_region ?_ | refine s_nil ?_ | refine s_move (by exact rfl) (by exact rfl) ?_ | refine s_add (by exact rfl) (by exact rfl) (by exact rfl) (by omega) ?_ | refine k_blk ?_
        refine c_round (j + 1, z.set (c.getD j 0) i) [0, 0, 0, 0, 0, 0, 0] (by exact rfl) ⟨rfl, rfl, rfl, rfl, rfl, rfl, rfl, rfl, rfl, rfl, rfl, rfl, trivial⟩ ⟨by dsimp only; omega, by dsimp only; rw [List.length_set]; exact hzl, fun a c' ha hai u hu => ?_, fun u hu => ?_⟩ (by dsimp only; omega)
        · dsimp only
          rw [getD_setN]
          split
          · exfalso
            rename_i he
            obtain ⟨a0, c0, h1, h2, h3⟩ := hone u ((hcl2 c' (List.mem_of_getElem? ha)).2 u hu)
            have e1 := (h3 a c' ha).1 hu
            have e2 := (h3 i c hci).1 (he.1 ▸ hcm)
            omega
          · exact hz1 a c' ha hai u hu
        · dsimp only at hu ⊢
          rw [getD_setN]
          split
          · rfl
          · rename_i he
            rw [List.take_add_one, List.getElem?_eq_getElem hjl] at hu
            rcases List.mem_append.1 hu with hu | hu
            · exact hz2 u hu
            · exfalso
              obtain rfl : u = c[j] := by simpa using hu
              refine he ⟨?_, by rw [hzl]; exact hcu⟩
              rw [List.getD_eq_getElem?_getD, List.getElem?_eq_getElem hjl]; rfl
      · repeat' first
          | refine k_then ?_ | refine c_seq ?_ | refine c_region ?_ | refine s_nil ?_ | refine s_move (by exact rfl) (by exact rfl) ?_ | refine s_lss (by exact rfl) (by exact rfl) (by exact rfl) ?_ | refine s_add (by exact rfl) (by exact rfl) (by exact rfl) (by omega) ?_ | refine c_exit ?_ | refine k_then_exit ?_ | refine k_blk ?_ | refine k_blk_eq ?_ | (refine c_cond_p (by exact rfl) (fun h => ?_) (fun h => ?_) <;> try (exfalso; omega))
        rw [List.take_of_length_le (by omega)] at hz2
        refine c_round (i + 1, z) [0, 0, 0, 0, 0, 0, 0] (by exact rfl) ⟨rfl, rfl, rfl, rfl, rfl, rfl, rfl, rfl, trivial⟩ ⟨by dsimp only; omega, hzl, fun a c' ha hai u hu => ?_⟩ (by dsimp only; omega)
        by_cases hai2 : a < i
        · exact hz1 a c' ha hai2 u hu
        · obtain rfl : a = i := by dsimp only at hai; omega
          rw [hci] at ha
          obtain rfl := Option.some.inj ha
          exact hz2 u hu
  · repeat' first
      | refine k_then ?_ | refine c_seq ?_ | refine c_region ?_ | refine s_nil ?_ | refine s_move (by exact rfl) (by exact rfl) ?_ | refine s_fa (by exact rfl) (by exact rfl) ?_ | refine s_ld_box (by exact rfl) (by exact rfl) (by exact .tail _ (.tail _ (.tail _ (.tail _ (.tail _ (.tail _ (.head _))))))) (by exact rfl) ?_ | refine s_lss (by exact rfl) (by exact rfl) (by exact rfl) ?_ | refine s_len (by exact rfl) (by exact rfl) (by assumption) ?_ | refine c_block ?_ | refine c_exit ?_ | refine k_then_exit ?_ | refine k_blk_eq ?_ | (refine c_cond_p (by exact rfl) (fun h => ?_) (fun h => ?_) <;> try (exfalso; omega))
    obtain rfl : i = cs.length := by omega
    rw [baseL_all, ← eulE_zero (tn es)]
    have hat : ∀ u, u < N → ∃ (a : Nat) (c : List Nat), cs[a]? = some c ∧ (nV y)[u * 1]? = some (.int .i64 (a : Int)) ∧ a < cs.length ∧ c.length ≤ N ∧ ∀ (b : Nat) x, cs[b]? = some x → (u ∈ x ↔ b = a) := fun u hu => by
      obtain ⟨a, c, h1, h2, h3⟩ := hone u hu
      have h4 := (List.getElem?_eq_some_iff.1 h1).1
      refine ⟨a, c, h1, ?_, h4, (hcl2 c (List.mem_of_getElem? h1)).1, h3⟩
      rw [nV_get (by omega), hy a c h1 h4 u h2]
    refine c_loop (fun k : Nat => k ≤ es.length) (fun k => [(2, .pointer (some ⟨b, 0, none⟩)), (6, vf), (8, vm), (10, vo), (67, v), (68, .int .i64 (es.length : Int)), (69, .int .i64 (k : Int))])
      (fun k => [rowHP vo 3 1 cs.length (iV (cs.map (eulE (tn es) k))), rowHP vm 3 1 N (nV y), rowHP vf 77 1 Fs.length hf, starHP (kids rowD hf Fs)])
      (fun k => es.length - k) 0 [0, 0, 2, 2] (Nat.zero_le _) (by exact rfl) ⟨rfl, rfl, rfl, rfl, rfl, rfl, rfl, trivial⟩ ?_
    rintro k hk
    by_cases hlt : k < es.length
    · obtain ⟨e, he⟩ : ∃ e, es[k]? = some e := ⟨_, List.getElem?_eq_getElem hlt⟩
      have hE := esV_at he
      obtain ⟨o1, o2, o3, o4, _⟩ := hG.ok e (List.mem_of_getElem? he)
      obtain ⟨a, c, h1, h2, h3, h4, h5⟩ := hat e.1.toNat (by omega)
      have het : (tn es)[k]? = some (e.1.toNat, e.2.1.toNat) := by rw [tn, List.getElem?_map, he]; rfl
      have hst := eulE_step het h1 h5
      have hbd := eulE_bound (tn es) k c
      rw [tn_len] at hbd
      have hgx : (iV (cs.map (eulE (tn es) k)))[a * 1]? = some (.int .i64 (eulE (tn es) k c)) := by
        rw [Nat.mul_one, iV, List.getElem?_map, List.getElem?_map, h1]; rfl
      repeat' first
        | refine k_then ?_ | refine c_seq ?_ | refine c_region ?_ | refine s_nil ?_ | refine s_lss (by exact rfl) (by exact rfl) (by exact rfl) ?_ | refine s_idx (by exact rfl) (by exact rfl) (by exact rfl) (by assumption) (by first | assumption | omega) ?_ | refine s_ldk_ro (by exact rfl) (by exact rfl) (by assumption) (by decide) (by assumption) (by exact rfl) ?_ | refine o_alloc (by exact rfl) (fun b => ?_) | refine c_block ?_ | refine c_skip ?_ | (refine c_cond_p (by exact rfl) (fun h => ?_) (fun h => ?_) <;> try (exfalso; omega))
      refine o_stk_box (i := 0) (us := eV e) (by exact rfl) (by exact rfl) (by exact rfl) (by exact rfl) (by exact rfl) (by simp [eV, Value.oneCell']) (by simp [Value.cells]) ?_
      repeat' first
        | refine k_then ?_ | refine c_region ?_ | refine s_nil ?_ | refine s_move (by exact rfl) (by exact rfl) ?_ | refine s_fa (by exact rfl) (by exact rfl) ?_ | refine s_ld_box (by exact rfl) (by exact rfl) (by exact .head _) (by exact rfl) ?_ | refine s_sub (by exact rfl) (by exact rfl) (by exact rfl) (by omega) ?_ | refine s_idx (by exact rfl) (by exact rfl) (by exact rfl) (by assumption) (by first | assumption | omega) ?_ | refine s_idxi (by exact rfl) (by exact rfl) (by exact rfl) (by assumption) (by first | assumption | omega) ?_ | refine s_ld_row (by exact rfl) (by exact rfl) (by first | exact .tail _ (.head _) | exact .tail _ (.tail _ (.head _))) (by assumption) ?_
      refine o_st_row (i := 1) (by exact rfl) (by exact rfl) (by exact rfl) rfl (by omega) ?_
      rw [iV_set]
      repeat' first
        | refine k_then ?_ | refine c_region ?_ | refine s_nil ?_ | refine s_move (by exact rfl) (by exact rfl) ?_ | refine s_add (by exact rfl) (by exact rfl) (by exact rfl) (by omega) ?_ | refine k_blk ?_
      refine c_round (k + 1) [1, 1, 1, 1] (by rw [← hst]; exact rfl) ⟨rfl, rfl, rfl, rfl, rfl, rfl, rfl, trivial⟩ (by omega) (by omega)
    · repeat' first
        | refine k_then ?_ | refine c_seq ?_ | refine c_region ?_ | refine s_nil ?_ | refine s_move (by exact rfl) (by exact rfl) ?_ | refine s_lss (by exact rfl) (by exact rfl) (by exact rfl) ?_ | refine s_len (by exact rfl) (by exact rfl) (by assumption) ?_ | refine c_block ?_ | refine c_exit ?_ | refine k_then_exit ?_ | refine k_blk_eq ?_ | (refine c_cond_p (by exact rfl) (fun h => ?_) (fun h => ?_) <;> try (exfalso; omega))
      obtain rfl : k = es.length := by omega
      rw [← tn_len es, ← eulF_zero (tn es) Fs]
      refine c_loop (fun k : Nat => k ≤ Fs.length) (fun k => [(8, vm), (10, vo), (84, vf), (85, .int .i64 (Fs.length : Int)), (86, .int .i64 (k : Int))])
        (fun k => [rowHP vo 3 1 cs.length (iV (cs.map (eulF (tn es) Fs k))), rowHP vm 3 1 N (nV y), rowHP vf 77 1 Fs.length hf, starHP (kids rowD hf Fs)])
        (fun k => Fs.length - k) 0 [0, 0, 0, 0] (Nat.zero_le _) (by exact rfl) ⟨rfl, rfl, rfl, rfl, rfl, trivial⟩ ?_
      rintro k hk
      by_cases hlt : k < Fs.length
      · obtain ⟨f, hf1⟩ : ∃ f, Fs[k]? = some f := ⟨_, List.getElem?_eq_getElem hlt⟩
        obtain ⟨hd, hhd⟩ : ∃ hd, hf[k]? = some hd := ⟨_, List.getElem?_eq_getElem (by omega)⟩
        have hhd1 : hf[k * 1]? = some hd := by rw [Nat.mul_one]; exact hhd
        obtain ⟨d, t, rfl, hdN⟩ := hFne f (List.mem_of_getElem? hf1)
        obtain ⟨a, c, h1, h2, h3, h4, h5⟩ := hat d.1 hdN
        have hst := eulF_step (l := tn es) hf1 h1 h5
        have hbd := eulF_bound (tn es) Fs k c
        rw [tn_len] at hbd
        have hgx : (iV (cs.map (eulF (tn es) Fs k)))[a * 1]? = some (.int .i64 (eulF (tn es) Fs k c)) := by
          rw [Nat.mul_one, iV, List.getElem?_map, List.getElem?_map, h1]; rfl
        have hkd : rowHP hd 76 2 (d :: t).length (dsV (d :: t)) ∈ kids rowD hf Fs := kids_mem (f := rowD) hhd hf1
        have hd0 : (dsV (d :: t))[0 * 2 + 0]? = some (.int .i64 (d.1 : Int)) := rfl
        have hpos : 0 < (d :: t).length := by simp
        repeat' first
          | refine k_then ?_ | refine c_seq ?_ | refine c_region ?_ | refine s_nil ?_ | refine s_move (by exact rfl) (by exact rfl) ?_ | refine s_assign (by exact rfl) (by exact rfl) ?_ | refine s_lss (by exact rfl) (by exact rfl) (by exact rfl) ?_ | refine s_idx (by exact rfl) (by exact rfl) (by exact rfl) (by assumption) (by first | assumption | omega) ?_ | refine s_ld_row (by exact rfl) (by exact rfl) (by exact .tail _ (.tail _ (.head _))) (by assumption) ?_ | refine c_block ?_ | refine c_skip ?_ | (refine c_cond_p (by exact rfl) (fun h => ?_) (fun h => ?_) <;> try (exfalso; omega))
        refine know_kid (by exact .tail _ (.tail _ (.tail _ (.head _)))) hkd fun hsd _ => ?_
        repeat' first
          | refine s_add (by exact rfl) (by exact rfl) (by exact rfl) (by omega) ?_ | refine s_idx (by exact rfl) (by exact rfl) (by exact rfl) (by assumption) (by first | assumption | omega) ?_ | refine s_fap (by exact rfl) (by exact rfl) (by assumption) (by omega) ?_ | refine s_ld_row (by exact rfl) (by exact rfl) (by first | exact .head _ | exact .tail _ (.head _)) (by assumption) ?_ | refine s_ld_kid (by exact rfl) (by exact rfl) (by assumption) (by exact .tail _ (.tail _ (.tail _ (.head _)))) (by assumption) ?_
        refine o_st_row (i := 0) (by exact rfl) (by exact rfl) (by exact rfl) rfl (by omega) ?_
        rw [iV_set]
        repeat' first
          | refine k_then ?_ | refine c_region ?_ | refine s_nil ?_ | refine s_move (by exact rfl) (by exact rfl) ?_ | refine s_add (by exact rfl) (by exact rfl) (by exact rfl) (by omega) ?_ | refine k_blk ?_
        refine c_round (k + 1) [0, 0, 0, 0] (by rw [← hst]; exact rfl) ⟨rfl, rfl, rfl, rfl, rfl, trivial⟩ (by omega) (by omega)
      · repeat' first
          | refine k_then ?_ | refine c_seq ?_ | refine c_region ?_ | refine s_nil ?_ | refine s_move (by exact rfl) (by exact rfl) ?_ | refine s_assign (by exact rfl) (by exact rfl) ?_ | refine s_lss (by exact rfl) (by exact rfl) (by exact rfl) ?_ | refine c_exit ?_ | refine c_ret ?_ | refine k_then_exit ?_ | refine k_blk_eq ?_ | (refine c_cond_p (by exact rfl) (fun h => ?_) (fun h => ?_) <;> try (exfalso; omega))
        obtain rfl : k = Fs.length := by omega
        rw [eulF_all]
        refine retL [.tmp 4, .tmp 5] [vo, .int .i64 0] [0] rfl ⟨res_tmp rfl, res_tmp rfl, trivial⟩ (by exact rfl) ⟨vo, _, lab, hLev, rfl, ?_⟩
        rw [eulerL, hcs]
end Go.Proofs.YtpajjnkmaebhcaaGreat
end
section
set_option linter.unusedVariables false
namespace Fil
theorem lev_comps {N : Nat} {A : Nat → List Nat} {o o' lab lab' : Nat → Nat} (h : Lev N A o lab) (h' : Lev N A o' lab') : compsS N lab = compsS N lab' := compsS_congr (h.lab_eq h')
theorem lev_euler {N : Nat} {A : Nat → List Nat} {l : List (Nat × Nat)} {F : List (List (Nat × Nat))} {o o' lab lab' : Nat → Nat} (h : Lev N A o lab) (h' : Lev N A o' lab') : eulerL N l lab F = eulerL N l lab' F := by rw [eulerL, eulerL, lev_comps h h']
/-- is it in the plane -/
def planeR (N : Nat) (l : List (Nat × Nat)) (lab : Nat → Nat) (R : List (List Nat)) : Int := if (eulerL N l lab (facesR N l R)).any (fun x => decide (x ≠ 2)) then 12 else 0
end Fil
namespace Go.Proofs.YtpajjnkmaebhcaaGreat
open Go.RowKit Go.Sl Fil
set_option maxRecDepth 100000
set_option maxHeartbeats 8000000
set_option linter.unusedVariables false
set_option linter.unusedSimpArgs false
attribute [local irreducible] Code.wp wpList bodyPost wpQuiet Exit.then Exit.inBlock Post wpAnyH wpOp
theorem indexFI_ok (v : Value) (l : List Int) (f : FuncId) (caps : List Value) (p : Int → Bool) (w : World) [FnTy Tryz.prog f] (hs : Shp v l.length) (hr : RO w No v (iV l))
    (hcl : ∀ (k : Nat) e, l[k]? = some e → ∀ w' S', Mod w No w' S' → Calls Tryz.prog f ([Value.int .i64 e] ++ caps).toArray w' (Post w' No (Just (.bool (p e))))) :
    Calls Tryz.prog 48 #[v, .func (.func f) #[] caps.toArray] w (Post w No (Just (.int .i64 (match l.findIdx? p with | some i => (i : Int) | none => -1)))) := by
  have hm := hs.1
  simp only [maxLen] at hm
  refine enter0 (vs := [_, _]) Tryz.func48 rfl Tryz.ntmps48 rfl ?_
  repeat' first
    | refine k_then ?_ | refine c_seq ?_ | refine c_region ?_ | refine s_nil ?_ | refine s_move (by exact rfl) (by exact rfl) ?_ | refine s_assign (by exact rfl) (by exact rfl) ?_ | refine s_len (by exact rfl) (by exact rfl) (by assumption) ?_ | refine c_block ?_
  refine c_loop (fun k : Nat => k ≤ l.length ∧ ∀ e ∈ l.take k, p e = false) (fun k => [(0, v), (1, .func (.func f) #[] caps.toArray), (6, v), (7, .int .i64 (l.length : Int)), (8, .int .i64 (k : Int))]) (fun _ => []) (fun k => l.length - k) 0 [] ⟨by omega, by simp⟩ rfl ⟨rfl, rfl, rfl, rfl, rfl, trivial⟩ ?_
  rintro k ⟨hk, hq⟩
  by_cases hlt : k < l.length
  · obtain ⟨e, he⟩ : ∃ e, l[k]? = some e := ⟨_, List.getElem?_eq_getElem hlt⟩
    have hE : (iV l)[k * 1]? = some (.int .i64 e) := by rw [Nat.mul_one, iV, List.getElem?_map, he]; rfl
    repeat' first
      | refine k_then ?_ | refine c_seq ?_ | refine c_region ?_ | refine s_nil ?_ | refine s_move (by exact rfl) (by exact rfl) ?_ | refine s_assign (by exact rfl) (by exact rfl) ?_ | refine s_lss (by exact rfl) (by exact rfl) (by exact rfl) ?_ | refine s_idx (by exact rfl) (by exact rfl) (by exact rfl) (by assumption) (by first | assumption | omega) ?_ | refine s_ld_ro (by exact rfl) (by exact rfl) (by assumption) (by assumption) ?_ | refine c_block ?_ | refine c_skip ?_ | (refine c_cond_p (by exact rfl) (fun h => ?_) (fun h => ?_) <;> try (exfalso; omega))
    refine s_callv (pre := []) (by exact rfl) (by exact rfl) (by exact rfl) (fun w h => h.mod0.elim fun S' hm => hcl k e he w S' hm) ?_
    cases hp : p e
    · repeat' first
        | refine k_then ?_ | refine c_region ?_ | refine s_nil ?_ | refine s_move (by exact rfl) (by exact rfl) ?_ | refine s_add (by exact rfl) (by exact rfl) (by exact rfl) (by omega) ?_ | refine c_skip ?_ | refine k_blk ?_ | refine c_cond_f (by exact rfl) ?_
      refine c_round (k + 1) [] (by exact rfl) ⟨rfl, rfl, rfl, rfl, rfl, trivial⟩ ⟨by omega, ?_⟩ (by omega)
      rw [List.take_add_one, he]
      intro a ha
      rcases List.mem_append.1 ha with ha | ha
      · exact hq a ha
      · obtain rfl : a = e := by simpa using ha
        exact hp
    · repeat' first
        | refine k_then ?_ | refine c_seq ?_ | refine c_region ?_ | refine s_nil ?_ | refine s_move (by exact rfl) (by exact rfl) ?_ | refine s_assign (by exact rfl) (by exact rfl) ?_ | refine c_ret ?_ | refine k_then_ret ?_ | refine k_blk_ret ?_ | refine c_cond_t (by exact rfl) ?_
      have hfi : l.findIdx? p = some k := by
        rw [List.findIdx?_eq_some_iff_getElem]
        obtain ⟨h1, h2⟩ := List.getElem?_eq_some_iff.1 he
        refine ⟨h1, by rw [h2]; exact hp, fun j hj => ?_⟩
        rw [hq _ (List.mem_take_iff_getElem.2 ⟨j, by omega, rfl⟩)]
        simp
      refine ret1 [] rfl rfl rfl ⟨by rw [hfi], rfl⟩
  · rw [List.take_of_length_le (by omega)] at hq
    repeat' first
      | refine k_then ?_ | refine c_seq ?_ | refine c_region ?_ | refine s_nil ?_ | refine s_assign (by exact rfl) (by exact rfl) ?_ | refine s_lss (by exact rfl) (by exact rfl) (by exact rfl) ?_ | refine c_exit ?_ | refine c_ret ?_ | refine k_then_exit ?_ | refine k_blk_eq ?_ | (refine c_cond_p (by exact rfl) (fun h => ?_) (fun h => ?_) <;> try (exfalso; omega))
    refine ret1 [] rfl rfl rfl ⟨by rw [List.findIdx?_eq_none_iff.2 hq], rfl⟩
theorem containsFI_ok (v : Value) (l : List Int) (f : FuncId) (caps : List Value) (p : Int → Bool) (w : World) [FnTy Tryz.prog f] (hs : Shp v l.length) (hr : RO w No v (iV l))
    (hcl : ∀ (k : Nat) e, l[k]? = some e → ∀ w' S', Mod w No w' S' → Calls Tryz.prog f ([Value.int .i64 e] ++ caps).toArray w' (Post w' No (Just (.bool (p e))))) :
    Calls Tryz.prog 30 #[v, .func (.func f) #[] caps.toArray] w (Post w No (Just (.bool (l.any p)))) := by
  refine enter0 (vs := [_, _]) Tryz.func30 rfl Tryz.ntmps30 rfl ?_
  repeat' first
    | refine k_then ?_ | refine c_seq ?_ | refine c_region ?_ | refine s_nil ?_ | refine s_move (by exact rfl) (by exact rfl) ?_ | refine s_assign (by exact rfl) (by exact rfl) ?_
  refine s_call (by exact rfl) (by exact rfl) (fun w h => h.mod0.elim fun S' hm => indexFI_ok v l f caps p w hs (ro_old h hr) fun k e he w' S2 hm2 => hcl k e he w' _ (mod_trans0 hm hm2)) ?_
  repeat' first
    | refine k_then ?_ | refine s_nil ?_ | refine s_assign (by exact rfl) (by exact rfl) ?_ | refine s_geq (by exact rfl) (by exact rfl) (by exact rfl) ?_ | refine c_ret ?_
  refine ret1 [] rfl rfl rfl ⟨congrArg Value.bool ?_, rfl⟩
  cases h : l.findIdx? p with
  | none =>
    have := List.findIdx?_eq_none_iff.1 h
    rw [List.any_eq_false.2 (fun x hx => by rw [this x hx]; simp)]
    simp
  | some i =>
    obtain ⟨h1, h2, _⟩ := List.findIdx?_eq_some_iff_getElem.1 h
    rw [List.any_eq_true.2 ⟨_, List.getElem_mem h1, h2⟩]
    simp
theorem plane1_ok (x : Int) (w : World) : Calls Tryz.prog 31 #[.int .i64 x] w (Post w No (Just (.bool (decide (x ≠ 2))))) := by
  refine enter0 (vs := [_]) Tryz.func31 rfl Tryz.ntmps31 rfl ?_
  repeat' first
    | refine k_then ?_ | refine c_seq ?_ | refine c_region ?_ | refine s_nil ?_ | refine s_move (by exact rfl) (by exact rfl) ?_ | refine s_assign (by exact rfl) (by exact rfl) ?_ | refine s_neq (by exact rfl) (by exact rfl) (by exact rfl) ?_ | refine c_ret ?_
  refine ret1 [] rfl rfl rfl ⟨rfl, rfl⟩
theorem rotEulerL_ok (n : Int) (v : Value) (es : List E) (vr : Value) (hr0 : List Value) (R : List (List Nat)) (o lab : Nat → Nat) (w : World) (hs : Shp v es.length) (hr : RO w No v (esV es)) (hG : RightG n es) (hR : ROs w No vr hr0 R) (hRot : RotL n.toNat (tn es) R) (hL : Lev n.toNat (nb (tn es)) o lab) :
    Calls Tryz.prog 29 #[.agg #[.int .i64 n, v], vr] w (Post w No fun r L' => ∃ vo : Value, r = .tuple #[vo, .int .i64 0] ∧ L' = [rowHP vo 3 1 (eulerL n.toNat (tn es) lab (facesR n.toNat (tn es) R)).length (iV (eulerL n.toNat (tn es) lab (facesR n.toNat (tn es) R)))]) := by
  refine Calls.mono (rotEuler_ok n v es vr hr0 R w hs hr hG hR hRot) (Post.imp ?_)
  rintro r L' ⟨vo, o', lab', h1, h2, h3⟩
  refine ⟨vo, h2, ?_⟩
  rw [h3, lev_euler h1 hL, eulerL, List.length_map, lev_comps h1 hL]
theorem rotPlane_ok (n : Int) (v : Value) (es : List E) (vr : Value) (hr0 : List Value) (R : List (List Nat)) (o lab : Nat → Nat) (w : World) (hs : Shp v es.length) (hr : RO w No v (esV es)) (hG : RightG n es) (hR : ROs w No vr hr0 R) (hRot : RotL n.toNat (tn es) R) (hL : Lev n.toNat (nb (tn es)) o lab) :
    Calls Tryz.prog 16 #[.agg #[.int .i64 n, v], vr] w (Post w No (Just (.int .i64 (planeR n.toNat (tn es) lab R)))) := by
  have hsr := hR.shp
  have hrr := hR.ro
  refine enter0 (vs := [_, _]) Tryz.func16 rfl Tryz.ntmps16 rfl ?_
  repeat' first
    | refine k_then ?_ | refine c_seq ?_ | refine c_region ?_ | refine s_nil ?_ | refine s_move (by exact rfl) (by exact rfl) ?_ | refine s_assign (by exact rfl) (by exact rfl) ?_ | refine s_ldk_box (by exact rfl) (by exact rfl) (by exact .head _) (by exact rfl) (by exact rfl) ?_ | refine o_box (by exact rfl) (by exact rfl) (fun b => ?_)
  refine o_call (by exact rfl) (by exact rfl) (fun w h => rotEulerL_ok n v es vr hr0 R o lab w hs (ro_old h hr) hG (ros_old h hR) hRot hL) ?_
  rintro _ _ ⟨vo, rfl, rfl⟩
  refine know_row (v := vo) (.head _) fun hvo _ => ?_
  repeat' first
    | refine k_then ?_ | refine c_seq ?_ | refine c_region ?_ | refine s_nil ?_ | refine s_move (by exact rfl) (by exact rfl) ?_ | refine s_assign (by exact rfl) (by exact rfl) ?_ | refine s_neq (by exact rfl) (by exact rfl) (by exact rfl) ?_ | refine s_extract (by exact rfl) (by exact rfl) (by exact rfl) ?_ | refine c_block ?_ | (refine c_cond_p (by exact rfl) (fun h => ?_) (fun h => ?_) <;> try (exfalso; omega))
  refine s_call (by exact rfl) (by exact rfl) (fun w h => containsFI_ok vo (eulerL n.toNat (tn es) lab (facesR n.toNat (tn es) R)) 31 [] (fun x => decide (x ≠ 2)) w hvo (ro_own h (.head _)) fun k e _ w' S' hm => plane1_ok e w') ?_
  unfold planeR
  cases (eulerL n.toNat (tn es) lab (facesR n.toNat (tn es) R)).any fun x => decide (x ≠ 2) with
  | true =>
    repeat' first
      | refine k_then ?_ | refine c_seq ?_ | refine c_region ?_ | refine s_nil ?_ | refine s_assign (by exact rfl) (by exact rfl) ?_ | refine c_ret ?_ | refine k_then_ret ?_ | refine k_blk_ret ?_ | refine c_cond_t (by exact rfl) ?_
    refine ret1 [] rfl rfl rfl ⟨rfl, rfl⟩
  | false =>
    repeat' first
      | refine k_then ?_ | refine c_seq ?_ | refine c_region ?_ | refine s_nil ?_ | refine s_assign (by exact rfl) (by exact rfl) ?_ | refine c_skip ?_ | refine c_ret ?_ | refine k_blk ?_ | refine c_cond_f (by exact rfl) ?_
    refine ret1 [] rfl rfl rfl ⟨rfl, rfl⟩
end Go.Proofs.YtpajjnkmaebhcaaGreat
end
section
set_option linter.unusedVariables false
namespace Fil
def sumL (ls : List (List Int)) : Nat := (ls.map List.length).sum
theorem sumL_take {ls : List (List Int)} {k : Nat} {l : List Int} (h : ls[k]? = some l) : sumL (ls.take (k + 1)) = sumL (ls.take k) + l.length := by
  rw [List.take_add_one, h, sumL, List.map_append, List.sum_append]
  simp [sumL]
theorem sumL_le : ∀ {ls : List (List Int)} {l : List Int}, l ∈ ls → l.length ≤ sumL ls
  | x :: ls, l, h => by
    simp only [sumL, List.map_cons, List.sum_cons]
    rcases List.mem_cons.1 h with rfl | h
    · omega
    · have := sumL_le h
      simp only [sumL] at this
      omega
theorem sumL_mono (ls : List (List Int)) (k : Nat) : sumL (ls.take k) ≤ sumL ls := by
  conv => rhs; rw [← List.take_append_drop k ls, sumL, List.map_append, List.sum_append]
  exact Nat.le_add_right _ _
def light7 (n : Int) (m : Nat) (ls : List (List Int)) (k : Int) : Bool := (decide (n ≤ k) && decide ((m : Int) ≤ 4 * k)) && decide ((ls.length : Int) ≤ 2 * k) && decide ((sumL ls : Int) ≤ 1000)
theorem light7_t {n : Int} {m : Nat} {ls : List (List Int)} {k : Int} (h : light7 n m ls k = true) : n ≤ k ∧ (m : Int) ≤ 4 * k ∧ (ls.length : Int) ≤ 2 * k ∧ ∀ l ∈ ls, l.length ≤ 1000 := by
  simp only [light7, Bool.and_eq_true, decide_eq_true_eq] at h
  obtain ⟨⟨⟨h1, h2⟩, h3⟩, h4⟩ := h
  exact ⟨h1, h2, h3, fun l hl => by have := sumL_le hl; omega⟩
end Fil
namespace Go.Proofs.YtpajjnkmaebhcaaGreat
open Go.RowKit Go.Sl Fil
set_option maxRecDepth 100000
set_option maxHeartbeats 8000000
set_option linter.unusedVariables false
set_option linter.unusedSimpArgs false
attribute [local irreducible] Code.wp wpList bodyPost wpQuiet Exit.then Exit.inBlock Post wpAnyH wpOp
theorem Light7_ok (n : Int) (v : Value) (m : Nat) (vr : Value) (hr0 : List Value) (ls : List (List Int)) (k : Int) (w : World) (hs : Shp v m) (hR : ROsI w No vr hr0 ls) (hlen : ∀ l ∈ ls, l.length ≤ 17592186044416) (hk : 0 ≤ k ∧ k < 1000000) :
    Calls Tryz.prog 5 #[.agg #[.int .i64 n, v], vr, .int .i64 k] w (Post w No (Just (.bool (light7 n m ls k)))) := by
  have hsr := hR.shp
  have hrr := hR.ro
  have hls := hsr.1
  simp only [maxLen] at hls
  refine enter0 (vs := [_, _, _]) Tryz.func5 rfl Tryz.ntmps5 rfl ?_
  repeat' first
    | refine k_then ?_ | refine c_seq ?_ | refine c_region ?_ | refine s_nil ?_ | refine s_assign (by exact rfl) (by exact rfl) ?_ | refine o_box (by exact rfl) (by exact rfl) (fun b => ?_) | refine c_block ?_
  refine c_loop (fun i : Nat => i ≤ ls.length) (fun i => [(1, vr), (2, .int .i64 k), (3, .pointer (some ⟨b, 0, none⟩)), (6, .bool false), (7, .int .i64 (sumL (ls.take i) : Int)), (8, .int .i64 (i : Int))]) (fun _ => [boxHP b 24 (Value.agg #[.int .i64 n, v]).cells.toList]) (fun i => ls.length - i) 0 [0] (Nat.zero_le _) rfl ⟨rfl, rfl, rfl, rfl, rfl, rfl, trivial⟩ ?_
  rintro i hi
  by_cases hlt : i < ls.length
  · obtain ⟨hx, hhx⟩ : ∃ x, hr0[i]? = some x := ⟨_, List.getElem?_eq_getElem (by have := hR.len; omega)⟩
    obtain ⟨l, hl⟩ : ∃ l, ls[i]? = some l := ⟨_, List.getElem?_eq_getElem hlt⟩
    obtain ⟨hsx, hrx⟩ := hR.kid i hx l hhx hl
    have h1' : hr0[i * 1]? = some hx := by rw [Nat.mul_one]; exact hhx
    have hm := hlen l (List.mem_of_getElem? hl)
    have hst := sumL_take hl
    by_cases h10 : sumL (ls.take i) ≤ 1000
    · repeat' first
        | refine k_then ?_ | refine c_seq ?_ | refine c_region ?_ | refine s_nil ?_ | refine s_move (by exact rfl) (by exact rfl) ?_ | refine s_assign (by exact rfl) (by exact rfl) ?_ | refine s_lss (by exact rfl) (by exact rfl) (by exact rfl) ?_ | refine s_add (by exact rfl) (by exact rfl) (by exact rfl) (by omega) ?_ | refine s_len (by exact rfl) (by exact rfl) (by assumption) ?_ | refine s_idx (by exact rfl) (by exact rfl) (by exact rfl) (by assumption) (by first | assumption | omega) ?_ | refine s_pick_t (by exact rfl) (by exact rfl) (by exact rfl) ?_ | refine s_ld_ro (by exact rfl) (by exact rfl) (by assumption) (by assumption) ?_ | refine c_block ?_ | refine c_skip ?_ | refine k_blk ?_ | (refine c_cond_p (by exact rfl) (fun h => ?_) (fun h => ?_) <;> try (exfalso; omega)) | (refine g_case (by exact rfl) (by exact rfl) (fun h => ?_) (fun h => ?_) <;> try (exfalso; omega)) | refine w_move (by exact rfl) (by exact rfl) (by exact rfl) (by exact rfl) ?_ | refine w_leq (by exact rfl) (by exact rfl) (by exact rfl) (by exact rfl) (by exact rfl) ?_
      refine c_round (i + 1) [0] (by exact rfl) ?_ (by omega) (by omega)
      rw [hst, Int.natCast_add]
      exact ⟨rfl, rfl, rfl, rfl, rfl, rfl, trivial⟩
    · have hmo := sumL_mono ls i
      repeat' first
        | refine k_then ?_ | refine c_seq ?_ | refine c_region ?_ | refine s_nil ?_ | refine s_move (by exact rfl) (by exact rfl) ?_ | refine s_lss (by exact rfl) (by exact rfl) (by exact rfl) ?_ | refine s_len (by exact rfl) (by exact rfl) (by assumption) ?_ | refine s_pick_t (by exact rfl) (by exact rfl) (by exact rfl) ?_ | refine s_ldk_box (by exact rfl) (by exact rfl) (by exact .head _) (by exact rfl) (by exact rfl) ?_ | refine c_exit ?_ | refine k_then_exit ?_ | refine k_blk_eq ?_ | (refine c_cond_p (by exact rfl) (fun h => ?_) (fun h => ?_) <;> try (exfalso; omega)) | (refine g_case (by exact rfl) (by exact rfl) (fun h => ?_) (fun h => ?_) <;> try (exfalso; omega)) | refine w_move (by exact rfl) (by exact rfl) (by exact rfl) (by exact rfl) ?_ | refine w_leq (by exact rfl) (by exact rfl) (by exact rfl) (by exact rfl) (by exact rfl) ?_
      refine s_call (by exact rfl) (by exact rfl) (fun w h => Light_ok n v m k w hs hk) ?_
      unfold light7
      rw [show decide ((sumL ls : Int) ≤ 1000) = false from decide_eq_false (by omega), Bool.and_false]
      cases hb : (decide (n ≤ k) && decide ((m : Int) ≤ 4 * k))
      · repeat' first
          | refine k_then ?_ | refine s_nil ?_ | refine s_move (by exact rfl) (by exact rfl) ?_ | refine s_assign (by exact rfl) (by exact rfl) ?_ | refine s_pick_f (by exact rfl) (by exact rfl) (by exact rfl) ?_ | refine c_ret ?_ | refine g_skip (by exact rfl) (by exact rfl) (by exact rfl) (by exact rfl) ?_
        refine ret1 [] rfl rfl rfl ⟨rfl, rfl⟩
      · repeat' first
          | refine k_then ?_ | refine s_nil ?_ | refine s_move (by exact rfl) (by exact rfl) ?_ | refine s_assign (by exact rfl) (by exact rfl) ?_ | refine s_pick_t (by exact rfl) (by exact rfl) (by exact rfl) ?_ | refine s_pick_f (by exact rfl) (by exact rfl) (by exact rfl) ?_ | refine c_ret ?_ | (refine g_case (by exact rfl) (by exact rfl) (fun h => ?_) (fun h => ?_) <;> try (exfalso; omega)) | refine g_skip (by exact rfl) (by exact rfl) (by exact rfl) (by exact rfl) ?_ | refine w_move (by exact rfl) (by exact rfl) (by exact rfl) (by exact rfl) ?_ | refine w_leq (by exact rfl) (by exact rfl) (by exact rfl) (by exact rfl) (by exact rfl) ?_ | refine w_mul (by exact rfl) (by exact rfl) (by exact rfl) (by exact rfl) (by exact rfl) (by omega) ?_ | refine w_len (by exact rfl) (by exact rfl) (by exact rfl) (by exact rfl) (by assumption) ?_
        all_goals refine ret1 [] rfl rfl rfl ⟨congrArg Value.bool ?_, rfl⟩
        all_goals simp only [decide_eq_false_iff_not]
        all_goals omega
  · repeat' first
      | refine k_then ?_ | refine c_seq ?_ | refine c_region ?_ | refine s_nil ?_ | refine s_move (by exact rfl) (by exact rfl) ?_ | refine s_lss (by exact rfl) (by exact rfl) (by exact rfl) ?_ | refine s_len (by exact rfl) (by exact rfl) (by assumption) ?_ | refine s_pick_f (by exact rfl) (by exact rfl) (by exact rfl) ?_ | refine s_ldk_box (by exact rfl) (by exact rfl) (by exact .head _) (by exact rfl) (by exact rfl) ?_ | refine c_exit ?_ | refine k_then_exit ?_ | refine k_blk_eq ?_ | refine c_cond_f (by exact rfl) ?_ | (refine g_case (by exact rfl) (by exact rfl) (fun h => ?_) (fun h => ?_) <;> try (exfalso; omega)) | refine g_skip (by exact rfl) (by exact rfl) (by exact rfl) (by exact rfl) ?_
    obtain rfl : i = ls.length := by omega
    rw [List.take_length]
    refine s_call (by exact rfl) (by exact rfl) (fun w h => Light_ok n v m k w hs hk) ?_
    unfold light7
    cases hb : (decide (n ≤ k) && decide ((m : Int) ≤ 4 * k))
    · repeat' first
        | refine k_then ?_ | refine s_nil ?_ | refine s_move (by exact rfl) (by exact rfl) ?_ | refine s_assign (by exact rfl) (by exact rfl) ?_ | refine s_pick_f (by exact rfl) (by exact rfl) (by exact rfl) ?_ | refine c_ret ?_ | refine g_skip (by exact rfl) (by exact rfl) (by exact rfl) (by exact rfl) ?_
      all_goals refine ret1 [] rfl rfl rfl ⟨rfl, rfl⟩
    · repeat' first
        | refine k_then ?_ | refine s_nil ?_ | refine s_move (by exact rfl) (by exact rfl) ?_ | refine s_assign (by exact rfl) (by exact rfl) ?_ | refine s_pick_t (by exact rfl) (by exact rfl) (by exact rfl) ?_ | refine s_pick_f (by exact rfl) (by exact rfl) (by exact rfl) ?_ | refine c_ret ?_ | (refine g_case (by exact rfl) (by exact rfl) (fun h => ?_) (fun h => ?_) <;> try (exfalso; omega)) | refine g_skip (by exact rfl) (by exact rfl) (by exact rfl) (by exact rfl) ?_ | refine w_move (by exact rfl) (by exact rfl) (by exact rfl) (by exact rfl) ?_ | refine w_leq (by exact rfl) (by exact rfl) (by exact rfl) (by exact rfl) (by exact rfl) ?_ | refine w_mul (by exact rfl) (by exact rfl) (by exact rfl) (by exact rfl) (by exact rfl) (by omega) ?_ | refine w_len (by exact rfl) (by exact rfl) (by exact rfl) (by exact rfl) (by assumption) ?_
      · refine ret1 [] rfl rfl rfl ⟨congrArg Value.bool ?_, rfl⟩
        rw [decide_eq_true h, Bool.and_true, Bool.true_and]
      · refine ret1 [] rfl rfl rfl ⟨congrArg Value.bool ?_, rfl⟩
        rw [decide_eq_false h, Bool.and_false, Bool.false_and]
end Go.Proofs.YtpajjnkmaebhcaaGreat
end
section
set_option linter.unusedVariables false
namespace Go.Proofs.YtpajjnkmaebhcaaGreat
open Go Go.RowKit Go.Sl Fil
theorem calls_ex {P : Program} {f : FuncId} {args : Array Value} {w : World} {R : Ending → World → Prop} (h : Calls P f args w R) : ∃ e w', R e w' := by
  obtain ⟨e, w', _, hR, _⟩ := h []
  exact ⟨e, w', hR⟩
theorem lev_ex (w : World) {n : Int} {es : List E} (hR : RightG n es) : ∃ o lab, Lev n.toNat (nb (tn es)) o lab := by
  have hm := hR.many
  let W : World := { w with heap := #[.cells (esV es).toArray 40 (0, 0)] }
  have hs : Shp (.slice (some ⟨0, 0, none⟩) es.length es.length) es.length := ⟨by simp only [maxLen]; omega, .inr (.inl ⟨0, 0, es.length, rfl, Nat.le_refl _, by simp only [maxLen]; omega⟩)⟩
  have hr : RO W No (.slice (some ⟨0, 0, none⟩) es.length es.length) (esV es) := RO.of_rd fun j u hj => ⟨0, 0, es.length, es.length, rfl, by simp [World.cell?, W, hj]⟩
  obtain ⟨e, w', h⟩ := calls_ex (Components_ok n _ es W hs hr hR)
  obtain ⟨v, L, hG, _⟩ := h
  obtain ⟨met, out, lab, _, hB, _⟩ := hG
  exact ⟨_, _, hB.lev⟩
def es3 : List E := [(0, 1, 0), (0, 2, 0), (1, 2, 0)]
def R3 : List (List Nat) := [[1, 2], [2, 0], [0, 1]]
theorem right3 : RightG 3 es3 := right_iff.1 (by decide)
theorem rot3 : RotL (3 : Int).toNat (tn es3) R3 where
  len := rfl
  perm v hv := by
    match v, hv with
    | 0, _ => decide
    | 1, _ => decide
    | 2, _ => decide
theorem darts3 : dartsAll (3 : Int).toNat (tn es3) = [(0, 1), (0, 2), (1, 0), (1, 2), (2, 0), (2, 1)] := by
  have h : nearS (tn es3) = fun u => (List.range (3 : Int).toNat).filter (fun v => decide (v ∈ rf R3 u)) := funext fun u => (near_filter right3 rot3 u).symm
  rw [dartsAll, h]
  decide
theorem faces3 : facesR (3 : Int).toNat (tn es3) R3 = [[(0, 1), (1, 2), (2, 0)], [(0, 2), (2, 1), (1, 0)]] := by
  rw [facesR, darts3]
  decide
theorem lab3 {o lab : Nat → Nat} (hL : Lev (3 : Int).toNat (nb (tn es3)) o lab) : compsS (3 : Int).toNat lab = [[0, 1, 2]] := by
  have hG : Fil.Good (3 : Int).toNat (tn es3) := right3.good
  have hlab : (List.range 3).map lab = [0, 0, 0] := by
    have h := ref_labels hG hL
    have h2 : rounds relaxL (tn es3) (3 : Int).toNat (List.range (3 : Int).toNat) = [0, 0, 0] := by decide
    rw [h2] at h
    exact h.symm
  have h : lab 0 = 0 ∧ lab 1 = 0 ∧ lab 2 = 0 := by simpa [List.range_succ] using hlab
  have e : ∀ v, v < 3 → lab v = (fun _ => 0) v := fun v hv => by
    match v, hv with
    | 0, _ => exact h.1
    | 1, _ => exact h.2.1
    | 2, _ => exact h.2.2
  exact (compsS_congr (N := 3) e).trans (by decide)
theorem euler3 {o lab : Nat → Nat} (hL : Lev (3 : Int).toNat (nb (tn es3)) o lab) : eulerL (3 : Int).toNat (tn es3) lab (facesR (3 : Int).toNat (tn es3) R3) = [2] := by
  rw [eulerL, lab3 hL, faces3]
  decide
set_option maxRecDepth 100000
set_option maxHeartbeats 8000000
set_option linter.unusedVariables false
set_option linter.unusedSimpArgs false
attribute [local irreducible] Code.wp wpList bodyPost wpQuiet Exit.then Exit.inBlock Post wpAnyH wpOp
end Go.Proofs.YtpajjnkmaebhcaaGreat
end
section
set_option linter.unusedVariables false
namespace Fil
/-- the number of a dart's face -/
def faceOf (F : List (List (Nat × Nat))) (d : Nat × Nat) : Nat := F.findIdx fun f => decide (d ∈ f)
/-- the darts of the first k faces, each with its face -/
def sideL (F : List (List (Nat × Nat))) (k : Nat) : List ((Nat × Nat) × Nat) := (List.range k).flatMap fun i => (F.getD i []).map fun d => (d, i)
theorem sideL_succ {F : List (List (Nat × Nat))} {k : Nat} {f : List (Nat × Nat)} (h : F[k]? = some f) : sideL F (k + 1) = sideL F k ++ f.map fun d => (d, k) := by
  rw [sideL, List.range_succ, List.flatMap_append, ← sideL]
  simp [List.getD_eq_getElem?_getD, h]
theorem sideL_keys (F : List (List (Nat × Nat))) : ∀ k, k ≤ F.length → (sideL F k).map Prod.fst = (F.take k).flatten
  | 0, _ => by simp [sideL]
  | k + 1, h => by
    have h1 : F[k]? = some F[k] := List.getElem?_eq_getElem (by omega)
    rw [sideL_succ h1, List.map_append, sideL_keys F k (by omega), List.take_add_one, h1, List.flatten_append, List.map_map]
    simp only [Option.toList_some, List.flatten_cons, List.flatten_nil, List.append_nil]
    congr 1
    conv => rhs; rw [← List.map_id F[k]]
    rfl
theorem faceOf_spec {F : List (List (Nat × Nat))} {d : Nat × Nat} (h : d ∈ F.flatten) : ∃ f, F[faceOf F d]? = some f ∧ d ∈ f := by
  obtain ⟨f, hf, hd⟩ := List.mem_flatten.1 h
  have hl : faceOf F d < F.length := by
    rw [faceOf, List.findIdx_lt_length]
    exact ⟨f, hf, decide_eq_true hd⟩
  refine ⟨_, List.getElem?_eq_getElem hl, ?_⟩
  have := List.findIdx_getElem (w := hl)
  exact of_decide_eq_true this
theorem sideL_mem {F : List (List (Nat × Nat))} (hn : F.flatten.Nodup) {d : Nat × Nat} (h : d ∈ F.flatten) : (d, faceOf F d) ∈ sideL F F.length := by
  obtain ⟨f, h1, h2⟩ := faceOf_spec h
  have hl := (List.getElem?_eq_some_iff.1 h1).1
  rw [sideL, List.mem_flatMap]
  refine ⟨faceOf F d, List.mem_range.2 hl, List.mem_map.2 ⟨d, ?_, rfl⟩⟩
  rw [List.getD_eq_getElem?_getD, h1]
  exact h2
/-- an edge's two sides -/
def sidesE (F : List (List (Nat × Nat))) (e : E) : Nat × Nat := (faceOf F (e.1.toNat, e.2.1.toNat), faceOf F (e.2.1.toNat, e.1.toNat))
def sidesL (F : List (List (Nat × Nat))) (es : List E) : List (Nat × Nat) := es.map (sidesE F)
/-- the dual's edge of an edge -/
def dualE (F : List (List (Nat × Nat))) (e : E) : E := (((sidesE F e).1 : Int), ((sidesE F e).2 : Int), e.2.2)
def dualL (F : List (List (Nat × Nat))) (es : List E) : List E := es.map (dualE F)
/-- the first k edges' sides, the others' not yet -/
def sidesK (F : List (List (Nat × Nat))) (es : List E) (k : Nat) : List (Nat × Nat) := (es.take k).map (sidesE F) ++ List.replicate (es.length - k) (0, 0)
theorem sidesK_zero (F : List (List (Nat × Nat))) (es : List E) : sidesK F es 0 = List.replicate es.length (0, 0) := by simp [sidesK]
theorem sidesK_all (F : List (List (Nat × Nat))) (es : List E) : sidesK F es es.length = sidesL F es := by simp [sidesK, sidesL]
theorem sidesK_length {F : List (List (Nat × Nat))} {es : List E} {k : Nat} (h : k ≤ es.length) : (sidesK F es k).length = es.length := by simp [sidesK]; omega
theorem sidesK_set {F : List (List (Nat × Nat))} {es : List E} {k : Nat} {e : E} (h : es[k]? = some e) : (sidesK F es k).set k (sidesE F e) = sidesK F es (k + 1) := by
  have hk := (List.getElem?_eq_some_iff.1 h).1
  have e1 : es.length - k = (es.length - (k + 1)) + 1 := by omega
  rw [sidesK, sidesK, e1, List.replicate_succ, List.set_append_right _ _ (by simp; omega), List.take_add_one, h]
  simp only [List.length_map, List.length_take, Option.toList_some, List.map_append, List.map_cons, List.map_nil, List.append_assoc]
  rw [show k - min k es.length = 0 by omega]
  rfl
/-- the faces' lengths, of the first k -/
def lensK (F : List (List (Nat × Nat))) (k : Nat) : List Nat := (F.take k).map List.length ++ List.replicate (F.length - k) 0
theorem lensK_zero (F : List (List (Nat × Nat))) : lensK F 0 = List.replicate F.length 0 := by simp [lensK]
theorem lensK_all (F : List (List (Nat × Nat))) : lensK F F.length = F.map List.length := by simp [lensK]
theorem lensK_length {F : List (List (Nat × Nat))} {k : Nat} (h : k ≤ F.length) : (lensK F k).length = F.length := by simp [lensK]; omega
theorem lensK_set {F : List (List (Nat × Nat))} {k : Nat} {f : List (Nat × Nat)} (h : F[k]? = some f) : (lensK F k).set k f.length = lensK F (k + 1) := by
  have hk := (List.getElem?_eq_some_iff.1 h).1
  have e1 : F.length - k = (F.length - (k + 1)) + 1 := by omega
  rw [lensK, lensK, e1, List.replicate_succ, List.set_append_right _ _ (by simp; omega), List.take_add_one, h]
  simp only [List.length_map, List.length_take, Option.toList_some, List.map_append, List.map_cons, List.map_nil, List.append_assoc]
  rw [show k - min k F.length = 0 by omega]
  rfl
end Fil
end
section
set_option linter.unusedVariables false
set_option linter.unusedSimpArgs false
namespace Go.Sl
open Go Go.RowKit
section
variable {P : Program} {w0 : World} {S0 : FS} {n : Nat} {F : List (Nat × Value)} {L Lk : List HP} {o : Oper} {x y : Operand} {t e : TypeId} {a b : Int} {ops : Array Oper} {Q : Exit → Act → World → Prop} {d i : Nat} {ty : TypeId} {ps : String} {af : Array Edge} {plan : List PI}
theorem q_build2 [T : ArTy P t 2 e 1] [Z : ZrTy P t (.agg #[.int .i64 0, .int .i64 0])] (ho : o.op = .build t #[(0, x), (1, y)]) (hx : ev F x = some (.int .i64 a)) (hy : ev F y = some (.int .i64 b)) : R1 P w0 S0 n F L o (.agg #[.int .i64 a, .int .i64 b]) :=
  q_of_pure fun s hf w => by
    simp only [execOp, ho, Instr.build, Sem.run_bind, Sem.run_pure, run_underlying T.u, Z.z, T.size, Result.andThen_ok]
    simp [hf.eval hx, hf.eval hy, Instr.fill, Value.cells]
theorem t_build2 [T : ArTy P t 2 e 1] [Z : ZrTy P t (.agg #[.int .i64 0, .int .i64 0])] (hn : Nat.blt d n = true) (hx : ev F x = some (.int .i64 a)) (hy : ev F y = some (.int .i64 b)) (hkeep : ∀ w, St w0 S0 L w → St w0 S0 Lk w) (h : RP P w0 S0 n ops Q Lk plan ((d, .agg #[.int .i64 a, .int .i64 b]) :: F) L) : RPo P w0 S0 n ops Q Lk ⟨some d, .build t #[(0, x), (1, y)], ty, ps, af, none⟩ i true plan F L := fun ho => p_q ho rfl rfl hn hkeep (q_build2 rfl hx hy) h
theorem p_stk_row {rest : List PI} {t e : TypeId} {k sz z m j : Nat} {s u : Value} {us ys : List Value} [T : AgTy P t z] (ho : ops[i]? = some ⟨none, .store t x y, ty, ps, af, none⟩) (hx : ev F x = some (pv s k)) (hA : L[j]? = some (rowHP s e sz m ys)) (hy : ev F y = some u) (hu : u.cells.toList = us) (hl : us.length = z) (h1 : ∀ u ∈ us, u.oneCell' = true) (hz0 : 0 < z) (hlt : k + z ≤ m * sz)
    (hL : ∀ w, St w0 S0 (L.set j (rowHP s e sz m (putL ys k us))) w → St w0 S0 Lk w) (h : RP P w0 S0 n ops Q Lk rest F (L.set j (rowHP s e sz m (putL ys k us)))) : RP P w0 S0 n ops Q Lk (.mk i false :: rest) F L :=
  p_l ho rfl fun R hR => l_stk_row rfl rfl hx hy hu hl h1 hA hz0 hlt T.size (hR _ _ hL h)
end
end Go.Sl
end
