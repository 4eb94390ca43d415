/- Of BakerSet: part 6: what the walks rest on, contracts of functions and plain lemmas; no condition but those that each states. -/
import Derived.Test.YtpajjnkmaebhcabGreatBs5
import Derived.Scope
import Derived.Laws.StructEq
set_option linter.unusedVariables false
set_option linter.unusedSimpArgs false
section
set_option linter.unusedVariables false
namespace Fil
open Go.Proofs.YtpajjnkmaebhcabGreat (keepE)
def inP (p : List Nat) (e : E) : Bool := decide (e.1.toNat ∈ p) && decide (e.2.1.toNat ∈ p)
def renE (p : List Nat) (e : E) : E := ((p.idxOf e.1.toNat : Int), (p.idxOf e.2.1.toNat : Int), e.2.2)
def renL (p : List Nat) (es : List E) : List E := (es.filter (inP p)).map (renE p)
theorem renL_snoc {p : List Nat} {es : List E} {k : Nat} {e : E} (h : es[k]? = some e) : renL p (es.take (k + 1)) = renL p (es.take k) ++ (if inP p e = true then [renE p e] else []) := by
  rw [List.take_add_one, h, renL, Option.toList_some, List.filter_append, List.map_append, List.filter_cons, List.filter_nil, ← renL]
  split <;> rfl
theorem renL_length (p : List Nat) (es : List E) : (renL p es).length ≤ es.length := by
  rw [renL, List.length_map]; exact List.length_filter_le _ _
theorem asc_idx {p : List Nat} (h : Asc p) {u v : Nat} (hu : u ∈ p) (hv : v ∈ p) : p.idxOf u < p.idxOf v ↔ u < v := by
  have h1 := List.idxOf_lt_length_iff.2 hu
  have h2 := List.idxOf_lt_length_iff.2 hv
  have e1 : p[p.idxOf u]? = some u := by rw [List.getElem?_eq_getElem h1, List.getElem_idxOf]
  have e2 : p[p.idxOf v]? = some v := by rw [List.getElem?_eq_getElem h2, List.getElem_idxOf]
  constructor
  · exact h.get e1 e2
  · intro hlt
    rcases Nat.lt_trichotomy (p.idxOf u) (p.idxOf v) with h3 | h3 | h3
    · exact h3
    · rw [h3, e2] at e1
      have := Option.some.inj e1; omega
    · have := h.get e2 e1 h3; omega
theorem idx_inj {p : List Nat} {u v : Nat} (hu : u ∈ p) (hv : v ∈ p) (h : p.idxOf u = p.idxOf v) : u = v := by
  have h1 := List.idxOf_lt_length_iff.2 hu
  have e1 : p[p.idxOf u]? = some u := by rw [List.getElem?_eq_getElem h1, List.getElem_idxOf]
  have h2 := List.idxOf_lt_length_iff.2 hv
  have e2 : p[p.idxOf v]? = some v := by rw [List.getElem?_eq_getElem h2, List.getElem_idxOf]
  rw [h, e2] at e1
  exact (Option.some.inj e1).symm
theorem renL_right {n : Int} {es : List E} (hR : RightG n es) {p : List Nat} (h : Asc p) (hp : p.length ≤ 1048576) : RightG (p.length : Int) (renL p es) where
  lo := by omega
  hi := by omega
  many := by have := renL_length p es; have := hR.many; omega
  ok e he := by
    obtain ⟨x, hx, rfl⟩ := List.mem_map.1 he
    obtain ⟨h1, h2⟩ := List.mem_filter.1 hx
    simp only [inP, Bool.and_eq_true, decide_eq_true_eq] at h2
    obtain ⟨o1, o2, o3, o4, o5⟩ := hR.ok x h1
    have := (asc_idx h h2.1 h2.2).2 (by omega)
    have := List.idxOf_lt_length_iff.2 h2.2
    exact ⟨by simp only [renE]; omega, by simp only [renE]; omega, by simp only [renE]; omega, o4, o5⟩
  sorted := by
    rw [renL, List.pairwise_map]
    refine (hR.sorted.filter _).imp_of_mem fun {a b} ha hb hlt => ?_
    obtain ⟨a1, a2⟩ := List.mem_filter.1 ha
    obtain ⟨b1, b2⟩ := List.mem_filter.1 hb
    simp only [inP, Bool.and_eq_true, decide_eq_true_eq] at a2 b2
    obtain ⟨o1, o2, o3, _⟩ := hR.ok a a1
    obtain ⟨q1, q2, q3, _⟩ := hR.ok b b1
    simp only [ltE, renE] at hlt ⊢
    rcases hlt with hlt | ⟨he, hlt⟩
    · left
      have := (asc_idx h a2.1 b2.1).2 (by omega)
      omega
    · right
      refine ⟨by rw [he], ?_⟩
      have := (asc_idx h a2.2 b2.2).2 (by omega)
      omega
theorem renL_near {n : Int} {es : List E} (hR : RightG n es) {p : List Nat} (h : Asc p) (hp : p.length ≤ 1048576) {i j u v : Nat} (hi : p[i]? = some u) (hj : p[j]? = some v) : i ∈ nearS (tn (renL p es)) j ↔ u ∈ nearS (tn es) v := by
  have hu := List.mem_of_getElem? hi
  have hv := List.mem_of_getElem? hj
  have hn := h.nodup
  have ei : p.idxOf u = i := by
    obtain ⟨h1, h2⟩ := List.getElem?_eq_some_iff.1 hi
    rw [← h2]; exact hn.idxOf_getElem i h1
  have ej : p.idxOf v = j := by
    obtain ⟨h1, h2⟩ := List.getElem?_eq_some_iff.1 hj
    rw [← h2]; exact hn.idxOf_getElem j h1
  rw [mem_nearS, mem_nearS, mem_nb (renL_right hR h hp).tn_ne, mem_nb hR.tn_ne]
  have key : ∀ a b x y : Nat, p.idxOf x = a → p.idxOf y = b → x ∈ p → y ∈ p → ((a, b) ∈ tn (renL p es) ↔ (x, y) ∈ tn es) := fun a b x y ha hb hx hy => by
    rw [mem_tn, mem_tn]
    constructor
    · rintro ⟨e, he, h1, h2⟩
      obtain ⟨f, hf, rfl⟩ := List.mem_map.1 he
      obtain ⟨g1, g2⟩ := List.mem_filter.1 hf
      simp only [inP, Bool.and_eq_true, decide_eq_true_eq] at g2
      simp only [renE, Int.toNat_natCast] at h1 h2
      exact ⟨f, g1, idx_inj g2.1 hx (by omega), idx_inj g2.2 hy (by omega)⟩
    · rintro ⟨e, he, rfl, rfl⟩
      exact ⟨renE p e, List.mem_map.2 ⟨e, List.mem_filter.2 ⟨he, by simp [inP, hx, hy]⟩, rfl⟩, by simp only [renE, Int.toNat_natCast]; exact ha, by simp only [renE, Int.toNat_natCast]; exact hb⟩
  rw [key j i v u ej ei hv hu, key i j u v ei ej hu hv]
theorem renL_max {n : Int} {es : List E} (hR : RightG n es) {p l : List Nat} (h : Asc p) (hp : p.length ≤ 1048576) (hpn : ∀ u ∈ p, u < n.toNat) (hM : MaxIn (nearS (tn (renL p es))) p.length (fun _ => true) l) :
    MaxIn (nearS (tn es)) n.toNat (fun u => decide (u ∈ p)) (l.map fun i => p.getD i 0) := by
  have hget : ∀ i ∈ l, p[i]? = some (p.getD i 0) := fun i hi => by
    have := (hM.mem i hi).1
    rw [List.getD_eq_getElem?_getD, List.getElem?_eq_getElem this]; rfl
  have hn := h.nodup
  refine ⟨⟨?_, ?_, fun _ _ _ _ => rfl⟩, ?_, fun Y hY hm => ?_⟩
  · rw [List.Nodup, List.pairwise_map]
    refine hM.ind.nd.imp_of_mem fun {a b} ha hb hne e => hne ?_
    have e1 := hget a ha
    have e2 := hget b hb
    rw [e] at e1
    exact (List.getElem?_inj (List.getElem?_eq_some_iff.1 e1).1 hn).1 (e1.trans e2.symm)
  · intro u hu v hv
    obtain ⟨i, hi, rfl⟩ := List.mem_map.1 hu
    obtain ⟨j, hj, rfl⟩ := List.mem_map.1 hv
    rw [← renL_near hR h hp (hget i hi) (hget j hj)]
    exact hM.ind.no i hi j hj
  · intro u hu
    obtain ⟨i, hi, rfl⟩ := List.mem_map.1 hu
    have := List.mem_of_getElem? (hget i hi)
    exact ⟨hpn _ this, by simpa using this⟩
  · rw [List.length_map]
    have hYp : ∀ u ∈ Y, u ∈ p := fun u hu => by simpa using (hm u hu).2
    have hidx : ∀ u ∈ Y, p[p.idxOf u]? = some u := fun u hu => by
      have := List.idxOf_lt_length_iff.2 (hYp u hu)
      rw [List.getElem?_eq_getElem this, List.getElem_idxOf]
    have := hM.top (Y.map p.idxOf) ⟨?_, ?_, fun _ _ _ _ => rfl⟩ ?_
    · rwa [List.length_map] at this
    · rw [List.Nodup, List.pairwise_map]
      exact hY.nd.imp_of_mem fun {a b} ha hb hne e => hne (idx_inj (hYp a ha) (hYp b hb) e)
    · intro u hu v hv
      obtain ⟨x, hx, rfl⟩ := List.mem_map.1 hu
      obtain ⟨y, hy, rfl⟩ := List.mem_map.1 hv
      rw [renL_near hR h hp (hidx x hx) (hidx y hy)]
      exact hY.no x hx y hy
    · intro u hu
      obtain ⟨x, hx, rfl⟩ := List.mem_map.1 hu
      exact ⟨List.idxOf_lt_length_iff.2 (hYp x hx), rfl⟩
theorem MaxIn.nil (nb : Nat → List Nat) (N : Nat) : MaxIn nb N (fun u => decide (u ∈ ([] : List (List Nat)).flatten)) [] :=
  ⟨⟨.nil, by simp, by simp⟩, by simp, fun Y _ hm => by
    cases Y with
    | nil => simp
    | cons a Y => have := (hm a (.head _)).2; simp at this⟩
section
variable {n : Int} {es : List E} {kept : List Bool} {o' lab' : Nat → Nat}
theorem sel_asc {N : Nat} {lab : Nat → Nat} {c : List Nat} (h : c ∈ selL kept (compsS N lab)) : Asc c := by
  obtain ⟨r, hr, hl, rfl⟩ := comp_mem (List.mem_filter.1 h).1
  exact List.pairwise_lt_range.filter _
/-- one piece more -/
theorem shift_more (hR : RightG n es) (h : Lev n.toNat (nb (tn (es.filter (keepE kept)))) o' lab') {k : Nat} {p out l : List Nat} (hk : (selL kept (compsS n.toNat lab'))[k]? = some p)
    (hO : MaxIn (nearS (tn es)) n.toNat (fun u => decide (u ∈ ((selL kept (compsS n.toNat lab')).take k).flatten)) out) (hM : MaxIn (nearS (tn (renL p es))) p.length (fun _ => true) l) :
    MaxIn (nearS (tn es)) n.toNat (fun u => decide (u ∈ ((selL kept (compsS n.toNat lab')).take (k + 1)).flatten)) (out ++ l.map fun i => p.getD i 0) := by
  have hpm := List.mem_of_getElem? hk
  obtain ⟨r, t, hr, hpe, hkr, hlr, hm⟩ := sel_mem h.le hpm
  have hpn : ∀ u ∈ p, u < n.toNat := fun u hu => ((hm u).1 hu).1
  have hpl : p.length ≤ 1048576 := by
    have := nodup_length (sel_nodup hpm) hpn
    have := hR.hi; omega
  have h2 := renL_max hR (sel_asc hpm) hpl hpn hM
  have hidx : ∀ (u : Nat), u ∈ ((selL kept (compsS n.toNat lab')).take k).flatten → ∃ (j : Nat) (c : List Nat), j < k ∧ (selL kept (compsS n.toNat lab'))[j]? = some c ∧ u ∈ c := fun u hu => by
    obtain ⟨c, hc, huc⟩ := List.mem_flatten.1 hu
    obtain ⟨j, hj⟩ := List.getElem?_of_mem hc
    rw [List.getElem?_take] at hj
    split at hj
    · rename_i hlt; exact ⟨j, c, hlt, hj, huc⟩
    · simp at hj
  refine (hO.join h2 (fun u v _ _ _ _ => Iff.rfl) (fun u v hu hv h1 h2 => ?_) fun u hu h1 => ?_).congr fun u hu => ?_
  · obtain ⟨j, c, hj, hc, huc⟩ := hidx u (of_decide_eq_true h1)
    have hvp : v ∈ p := of_decide_eq_true h2
    have hne : ∀ x ∈ c, x ∉ p := fun x hx hxp => by have := sel_apart hc hk hx hxp; omega
    refine ⟨fun hh => ?_, fun hh => ?_⟩
    · exact hne u huc (sel_edge hR h hpm (List.mem_of_getElem? hc) hvp huc (mem_nearS.1 hh))
    · exact hne v (sel_edge hR h (List.mem_of_getElem? hc) hpm huc hvp (mem_nearS.1 hh)) hvp
  · obtain ⟨j, c, hj, hc, huc⟩ := hidx u (of_decide_eq_true h1)
    exact decide_eq_false fun hh => by have := sel_apart hc hk huc hh; omega
  · rw [List.take_add_one, hk, List.flatten_append]
    simp
theorem shift_all (hR : RightG n es) (h : Lev n.toNat (nb (tn (es.filter (keepE kept)))) o' lab') {u : Nat} (hu : u < n.toNat) : decide (u ∈ (selL kept (compsS n.toNat lab')).flatten) = kept.getD u false := by
  cases hk : kept.getD u false
  · refine decide_eq_false fun hm => ?_
    obtain ⟨c, hc, huc⟩ := List.mem_flatten.1 hm
    obtain ⟨r, t, hr, hpe, hkr, hlr, hm⟩ := sel_mem h.le hc
    have := thin_kept hR h hu
    rw [((hm u).1 huc).2, hkr, hk] at this
    simp at this
  · refine decide_eq_true (List.mem_flatten.2 ⟨(List.range n.toNat).filter fun v => lab' v == lab' u, List.mem_filter.2 ⟨?_, ?_⟩, List.mem_filter.2 ⟨List.mem_range.2 hu, by simp⟩⟩)
    · have h1 := h.le u hu
      have h2 := h.idem u hu
      simp only [compsS, compsI, List.mem_map, List.mem_filter, List.mem_range]
      exact ⟨lab' u, ⟨by omega, by simpa using h2⟩, rfl⟩
    · have h1 := h.le u hu
      obtain ⟨t, ht⟩ := comp_head (N := n.toNat) (lab := lab') (r := lab' u) (by omega) (h.idem u hu) h.le
      rw [ht, List.headD_cons, ← thin_kept hR h hu, hk]
end
end Fil
end
section
set_option linter.unusedVariables false
namespace Fil
def endsNe (a b : E) : Prop := ¬ (a.1 = b.1 ∧ a.2.1 = b.2.1)
theorem ltE_ne {a b : E} (h : ltE a b) : endsNe a b := by unfold ltE at h; unfold endsNe; omega
theorem endsNe_symm {a b : E} (h : endsNe a b) : endsNe b a := fun h2 => h ⟨h2.1.symm, h2.2.symm⟩
theorem belowB_iff {a b : E} : belowB a b = true ↔ ltE a b := by simp [belowB, ltE]
theorem posE_spec (g : List E) (e : E) : ∀ k, k ≤ g.length → (∀ j x, posE g e k ≤ j → j < k → g[j]? = some x → ltE e x) ∧ (∀ x, 0 < posE g e k → g[posE g e k - 1]? = some x → ¬ ltE e x)
  | 0, _ => ⟨fun j x _ h => by omega, fun x h => by simp [posE] at h⟩
  | k + 1, hk => by
    obtain ⟨h1, h2⟩ := posE_spec g e k (by omega)
    have hg : g[k]? = some (g.getD k (0, 0, 0)) := by rw [List.getD_eq_getElem?_getD, List.getElem?_eq_getElem (by omega)]; rfl
    rw [posE]
    split
    · rename_i hb
      refine ⟨fun j x hj hjk hx => ?_, h2⟩
      by_cases hjk2 : j = k
      · subst hjk2
        rw [hg] at hx
        rw [← Option.some.inj hx]
        exact belowB_iff.1 hb
      · exact h1 j x hj (by omega) hx
    · rename_i hb
      refine ⟨fun j x hj hjk => by omega, fun x _ hx => ?_⟩
      rw [Nat.add_sub_cancel, hg] at hx
      rw [← Option.some.inj hx]
      exact fun h => hb (belowB_iff.2 h)
theorem insE_perm (g : List E) (e : E) : (insE g e).Perm (g ++ [e]) := by
  rw [insE, List.append_assoc]
  have h : ([e] ++ g.drop (posE g e g.length)).Perm (g.drop (posE g e g.length) ++ [e]) := List.perm_append_comm
  refine (h.append_left _).trans ?_
  rw [← List.append_assoc, List.take_append_drop]
theorem ins_sorted {g : List E} {e : E} (hg : g.Pairwise ltE) : (twE g e = false → (insE g e).Pairwise ltE ∧ ∀ f ∈ g, endsNe f e) ∧ (twE g e = true → ∃ f ∈ g, ¬ endsNe f e) := by
  have hle := posE_le g e g.length
  obtain ⟨h1, h2⟩ := posE_spec g e g.length (Nat.le_refl _)
  generalize hp : posE g e g.length = p at *
  have hlast : 0 < p → g[p - 1]? = some (g.getD (p - 1) (0, 0, 0)) := fun h => by rw [List.getD_eq_getElem?_getD, List.getElem?_eq_getElem (by omega)]; rfl
  constructor
  · intro ht
    have hlow : ∀ f ∈ g.take p, ltE f e := by
      by_cases h0 : p = 0
      · subst h0; simp
      · have hb : ltE (g.getD (p - 1) (0, 0, 0)) e := by
          rw [twE, hp] at ht
          rw [← belowB_iff]
          cases hbb : belowB (g.getD (p - 1) (0, 0, 0)) e
          · rw [hbb] at ht; simp at ht; omega
          · rfl
        intro f hf
        obtain ⟨j, hj⟩ := List.getElem?_of_mem hf
        rw [List.getElem?_take] at hj
        split at hj
        · rename_i hjp
          by_cases hjl : j = p - 1
          · subst hjl
            rw [hlast (by omega)] at hj
            rw [← Option.some.inj hj]; exact hb
          · obtain ⟨q1, q2⟩ := List.getElem?_eq_some_iff.1 hj
            obtain ⟨q3, q4⟩ := List.getElem?_eq_some_iff.1 (hlast (by omega))
            have := List.pairwise_iff_getElem.1 hg j (p - 1) q1 q3 (by omega)
            rw [q2, q4] at this
            exact ltE_trans this hb
        · simp at hj
    have hhigh : ∀ f ∈ g.drop p, ltE e f := by
      intro f hf
      obtain ⟨j, hj⟩ := List.getElem?_of_mem hf
      rw [List.getElem?_drop] at hj
      exact h1 (p + j) f (by omega) (List.getElem?_eq_some_iff.1 hj).1 hj
    refine ⟨?_, fun f hf => ?_⟩
    · rw [insE, hp, List.append_assoc, List.pairwise_append]
      refine ⟨hg.sublist (List.take_sublist _ _), ?_, fun a ha b hb => ?_⟩
      · rw [List.singleton_append, List.pairwise_cons]
        exact ⟨hhigh, hg.sublist (List.drop_sublist _ _)⟩
      · rcases List.mem_append.1 hb with hb | hb
        · obtain rfl : b = e := by simpa using hb
          exact hlow a ha
        · exact ltE_trans (hlow a ha) (hhigh b hb)
    · rw [← List.take_append_drop p g] at hf
      rcases List.mem_append.1 hf with hf | hf
      · exact ltE_ne (hlow f hf)
      · exact endsNe_symm (ltE_ne (hhigh f hf))
  · intro ht
    rw [twE, hp, Bool.and_eq_true, decide_eq_true_eq, Bool.not_eq_true'] at ht
    obtain ⟨t1, t2⟩ := ht
    refine ⟨_, List.mem_of_getElem? (hlast t1), fun hne => ?_⟩
    have a1 := h2 _ t1 (hlast t1)
    have a2 : ¬ ltE (g.getD (p - 1) (0, 0, 0)) e := fun h => by rw [belowB_iff.2 h] at t2; cases t2
    unfold ltE at a1 a2
    unfold endsNe at hne
    omega
theorem makeF_tw {n : Int} : ∀ (l g : List E), (∀ e ∈ l, aloneK n e.1 e.2.1 e.2.2 = 0) → makeF n l g true = (7, [])
  | [], g, _ => rfl
  | e :: l, g, h => by
    rw [makeF, if_pos (h e (.head _)), Bool.true_or]
    exact makeF_tw l _ fun f hf => h f (.tail _ hf)
theorem makeF_all {n : Int} : ∀ (l g : List E), (∀ e ∈ l, aloneK n e.1 e.2.1 e.2.2 = 0) → g.Pairwise ltE →
    ((g ++ l.map swapE).Pairwise endsNe → ∃ m, makeF n l g false = (0, m) ∧ m.Pairwise ltE ∧ m.Perm (g ++ l.map swapE)) ∧ (¬ (g ++ l.map swapE).Pairwise endsNe → makeF n l g false = (7, []))
  | [], g, _, hg => ⟨fun _ => ⟨g, rfl, hg, by simp⟩, fun h => absurd (by simpa using hg.imp ltE_ne) h⟩
  | e :: l, g, h, hg => by
    obtain ⟨s1, s2⟩ := ins_sorted (e := swapE e) hg
    have hal := h e (.head _)
    have htl : ∀ f ∈ l, aloneK n f.1 f.2.1 f.2.2 = 0 := fun f hf => h f (.tail _ hf)
    have hperm : (insE g (swapE e) ++ l.map swapE).Perm (g ++ (e :: l).map swapE) := by
      rw [List.map_cons, show g ++ swapE e :: l.map swapE = (g ++ [swapE e]) ++ l.map swapE by simp]
      exact (insE_perm g (swapE e)).append_right _
    rw [makeF, if_pos hal, Bool.false_or]
    cases ht : twE g (swapE e)
    · obtain ⟨i1, i2⟩ := makeF_all l (insE g (swapE e)) htl (s1 ht).1
      refine ⟨fun hp => ?_, fun hp => i2 fun h2 => hp ?_⟩
      · obtain ⟨m, m1, m2, m3⟩ := i1 ((List.Perm.pairwise_iff (fun h => endsNe_symm h) hperm).2 hp)
        exact ⟨m, m1, m2, m3.trans hperm⟩
      · exact (List.Perm.pairwise_iff (fun h => endsNe_symm h) hperm).1 h2
    · refine ⟨fun hp => ?_, fun _ => makeF_tw l _ htl⟩
      exfalso
      obtain ⟨f, hf, hne⟩ := s2 ht
      rw [List.map_cons] at hp
      exact hne ((List.pairwise_append.1 hp).2.2 f hf (swapE e) (.head _))
theorem makeF_first {n : Int} : ∀ (l g : List E) (tw : Bool) (i : Nat) (e : E), l[i]? = some e → aloneK n e.1 e.2.1 e.2.2 ≠ 0 → (∀ f ∈ l.take i, aloneK n f.1 f.2.1 f.2.2 = 0) → makeF n l g tw = (aloneK n e.1 e.2.1 e.2.2, [])
  | [], g, tw, i, e, h, _, _ => by simp at h
  | a :: l, g, tw, 0, e, h, h2, _ => by
    obtain rfl : a = e := by simpa using h
    rw [makeF, if_neg h2]
  | a :: l, g, tw, i + 1, e, h, h2, h3 => by
    rw [makeF, if_pos (h3 a (by simp))]
    exact makeF_first l _ _ i e (by simpa using h) h2 fun f hf => h3 f (by simp [hf])
theorem ltE_asymm {a b : E} (h : ltE a b) : ¬ ltE b a := by unfold ltE at *; omega
theorem sorted_one : ∀ {a b : List E}, a.Pairwise ltE → b.Pairwise ltE → a.Perm b → a = b
  | [], b, _, _, h => (List.Perm.nil_eq h)
  | x :: a, [], _, _, h => by have := h.length_eq; simp at this
  | x :: a, y :: b, ha, hb, h => by
    rw [List.pairwise_cons] at ha hb
    have hxy : x = y := by
      rcases List.mem_cons.1 (h.mem_iff.1 (.head _)) with h1 | h1
      · exact h1
      · rcases List.mem_cons.1 (h.mem_iff.2 (.head b)) with h2 | h2
        · exact h2.symm
        · exact absurd (ha.1 y h2) (ltE_asymm (hb.1 x h1))
    subst hxy
    rw [sorted_one ha.2 hb.2 (h.cons_inv)]
theorem first_bad {α : Type} {P : α → Prop} : ∀ {l : List α}, (∀ x ∈ l, P x) ∨ ∃ (i : Nat) (e : α), l[i]? = some e ∧ ¬ P e ∧ ∀ f ∈ l.take i, P f
  | [] => .inl (by simp)
  | a :: l => by
    by_cases ha : P a
    · rcases first_bad (P := P) (l := l) with h | ⟨i, e, h1, h2, h3⟩
      · exact .inl fun x hx => (List.mem_cons.1 hx).elim (fun h2 => h2 ▸ ha) (h x)
      · exact .inr ⟨i + 1, e, by simpa using h1, h2, fun f hf => by
          rw [List.take_succ_cons] at hf
          exact (List.mem_cons.1 hf).elim (fun h2 => h2 ▸ ha) (h3 f)⟩
    · exact .inr ⟨0, a, rfl, ha, by simp⟩
theorem adj_strict {l : List E} (h : l.Pairwise fun a b => ¬ orderK b a < 0) (hq : ∀ (i : Nat) (a b : E), l[i]? = some a → l[i + 1]? = some b → orderK a b ≠ 0) : l.Pairwise ltE := by
  have hadj : ∀ (i : Nat) (a b : E), l[i]? = some a → l[i + 1]? = some b → ltE a b := fun i a b ha hb => by
    obtain ⟨i1, rfl⟩ := List.getElem?_eq_some_iff.1 ha
    obtain ⟨i2, rfl⟩ := List.getElem?_eq_some_iff.1 hb
    have h1 := List.pairwise_iff_getElem.1 h i (i + 1) i1 i2 (by omega)
    have h2 := hq i _ _ ha hb
    revert h1 h2
    generalize l[i] = a
    generalize l[i + 1] = b
    intro h1 h2
    unfold orderK cmpK at h1 h2
    unfold ltE
    split at h1 <;> split at h2 <;> (repeat' split at h1) <;> (repeat' split at h2) <;> omega
  rw [List.pairwise_iff_getElem]
  intro i j hi hj hij
  induction j with
  | zero => omega
  | succ j ih =>
    have h1 := hadj j l[j] l[j + 1] (List.getElem?_eq_getElem (by omega)) (List.getElem?_eq_getElem hj)
    by_cases h2 : i = j
    · subst h2; exact h1
    · exact ltE_trans (ih (by omega) (by omega)) h1
theorem order_ends {a b : E} (h : orderK a b = 0) : ¬ endsNe a b := by
  unfold orderK cmpK at h
  unfold endsNe
  split at h <;> (repeat' split at h) <;> omega
end Fil
namespace Go.Proofs.YtpajjnkmaebhcabGreat
open Fil
theorem MakeP.eq {n : Int} {l : List E} {k : Int} {m : List E} (h : MakeP n l k m) : makeR n l = (k, m) := by
  rw [makeR]
  by_cases h0 : sizesK n l.length = 0
  · rw [if_pos h0]
    rcases first_bad (P := fun e : E => aloneK n e.1 e.2.1 e.2.2 = 0) (l := l) with hal | ⟨i, e, h1, h2, h3⟩
    · obtain ⟨f1, f2⟩ := makeF_all l [] hal .nil
      rw [List.nil_append] at f1 f2
      obtain ⟨l', p1, p2, p3⟩ := h.good h0 hal
      by_cases hp : (l.map swapE).Pairwise endsNe
      · obtain ⟨m', m1, m2, m3⟩ := f1 hp
        have hp' : l'.Pairwise endsNe := (List.Perm.pairwise_iff (fun h => endsNe_symm h) p1).2 hp
        rcases p3 with ⟨_, _, i, a, b, ha, hb, hab⟩ | ⟨rfl, rfl, hq⟩
        · exfalso
          obtain ⟨i1, rfl⟩ := List.getElem?_eq_some_iff.1 ha
          obtain ⟨i2, rfl⟩ := List.getElem?_eq_some_iff.1 hb
          exact order_ends hab (List.pairwise_iff_getElem.1 hp' i (i + 1) i1 i2 (by omega))
        · rw [m1, sorted_one m2 (adj_strict p2 hq) (m3.trans p1.symm)]
      · rcases p3 with ⟨rfl, rfl, _⟩ | ⟨rfl, rfl, hq⟩
        · exact f2 hp
        · exfalso
          exact hp ((List.Perm.pairwise_iff (fun h => endsNe_symm h) p1).1 ((adj_strict p2 hq).imp ltE_ne))
    · obtain ⟨rfl, rfl⟩ := h.alone h0 i e h1 h2 h3
      exact makeF_first l [] false i e h1 h2 h3
  · rw [if_neg h0]
    obtain ⟨rfl, rfl⟩ := h.size h0
    rfl
end Go.Proofs.YtpajjnkmaebhcabGreat
end
section
set_option linter.unusedVariables false
namespace Fil
theorem Lev.nb_of {N : Nat} {l : List (Nat × Nat)} {o lab : Nat → Nat} (h : Lev N (nearS l) o lab) : Lev N (nb l) o lab :=
  h.congr fun v _ u => mem_nearS
theorem keptL_map {N k s : Nat} {out : List Nat} (hs : s ≤ k) (ho : out.length = N) : (out.map fun x => decide ((x + k + 1 - s) % (k + 1) ≠ 0)) = keptL N k s (fun v => out.getD v 0) := by
  rw [keptL, ← ho, map_getD out 0 (fun x => decide (x % (k + 1) ≠ s))]
  apply List.map_congr_left
  intro x _
  exact decide_eq_decide.2 (not_congr (shift_iff hs))
theorem keptL_congr {N k s : Nat} {o o' : Nat → Nat} (h : ∀ v, v < N → o v = o' v) : keptL N k s o = keptL N k s o' := by
  apply List.map_congr_left
  intro v hv
  rw [h v (by simpa using hv)]
end Fil
namespace Go.Proofs.YtpajjnkmaebhcabGreat
open Go.RowKit Go.Sl Fil
set_option maxRecDepth 100000
set_option maxHeartbeats 8000000
set_option linter.unusedVariables false
set_option linter.unusedSimpArgs false
attribute [local irreducible] Code.wp wpList bodyPost wpQuiet Exit.then Exit.inBlock Post wpAnyH wpOp
theorem kept2_ok (n : Int) (v : Value) (es : List E) (k s : Int) (w : World) (hs : Shp v es.length) (hr : RO w No v (esV es)) (hR : RightG n es) (hk : 1 ≤ k ∧ k ≤ 8 ∧ 0 ≤ s ∧ s ≤ k) :
    Calls Tryz.prog 71 #[.agg #[.int .i64 n, v], .int .i64 k, .int .i64 s] w (Post w No fun r L' => ∃ (o lab : Nat → Nat) (vo : Value), Lev n.toNat (nb (tn es)) o lab ∧ r = .tuple #[vo, .int .i64 0] ∧ L' = [rowHP vo 4 1 n.toNat (bV (keptL n.toNat k.toNat s.toNat o))]) := by
  refine (Kept_ok n v es k s w hs hr hR hk).mono (Post.imp ?_)
  rintro r L ⟨out, lab, vo, rfl, rfl, hl, hL⟩
  exact ⟨fun v => out.getD v 0, lab, vo, hL.nb_of, rfl, by rw [keptL_map (by omega) hl]⟩
theorem kept3_ok (n : Int) (v : Value) (es : List E) (k s : Int) (o lab : Nat → Nat) (w : World) (hs : Shp v es.length) (hr : RO w No v (esV es)) (hR : RightG n es) (hLev : Lev n.toNat (nb (tn es)) o lab) (hk : 1 ≤ k ∧ k ≤ 8 ∧ 0 ≤ s ∧ s ≤ k) :
    Calls Tryz.prog 71 #[.agg #[.int .i64 n, v], .int .i64 k, .int .i64 s] w (Post w No fun r L' => ∃ vo : Value, r = .tuple #[vo, .int .i64 0] ∧ L' = [rowHP vo 4 1 n.toNat (bV (keptL n.toNat k.toNat s.toNat o))]) := by
  refine (kept2_ok n v es k s w hs hr hR hk).mono (Post.imp ?_)
  rintro r L ⟨o', lab', vo, hL, rfl, rfl⟩
  exact ⟨vo, rfl, by rw [keptL_congr (hL.o_eq hR.good.adj hLev)]⟩
theorem Pieces_ok (n : Int) (v : Value) (es : List E) (k s : Int) (o lab : Nat → Nat) (w : World) (hs : Shp v es.length) (hr : RO w No v (esV es)) (hR : RightG n es) (hLev : Lev n.toNat (nb (tn es)) o lab) (hk : 1 ≤ k ∧ k ≤ 8 ∧ 0 ≤ s ∧ s ≤ k) :
    Calls Tryz.prog 43 #[.agg #[.int .i64 n, v], .int .i64 k, .int .i64 s] w (Post w No fun r L' => ∃ (o' lab' : Nat → Nat) (vo : Value) (ho : List Value), Lev n.toNat (nb (tn (es.filter (keepE (keptL n.toNat k.toNat s.toNat o))))) o' lab' ∧ r = .tuple #[vo, .int .i64 0] ∧ ho.length = (selL (keptL n.toNat k.toNat s.toNat o) (compsS n.toNat lab')).length ∧ L' = [rowHP vo 28 1 (selL (keptL n.toNat k.toNat s.toNat o) (compsS n.toNat lab')).length ho, starHP (kids rowN ho (selL (keptL n.toNat k.toNat s.toNat o) (compsS n.toNat lab')))]) := by
  have hlo := hR.lo
  have hhi := hR.hi
  have hkl : (keptL n.toNat k.toNat s.toNat o).length = n.toNat := by simp [keptL]
  have hRf := hR.filter (keepE (keptL n.toNat k.toNat s.toNat o))
  refine enter0 (vs := [_, _, _]) Tryz.func43 rfl Tryz.ntmps43 rfl ?_
  repeat' first
    | refine k_then ?_ | refine c_seq ?_ | refine c_region ?_ | refine s_nil ?_ | refine s_move (by exact rfl) (by exact rfl) ?_ | refine s_assign (by exact rfl) (by exact rfl) ?_ | refine s_ldk_box (by exact rfl) (by exact rfl) (by exact .head _) (by exact rfl) (by exact rfl) ?_ | refine o_box (by exact rfl) (by exact rfl) (fun b => ?_)
  refine o_call (by exact rfl) (by exact rfl) (fun w h => kept3_ok n v es k s o lab w hs (ro_old h hr) hR hLev hk) ?_
  rintro _ _ ⟨vk, rfl, rfl⟩
  refine know_row (v := vk) (.head _) fun hvk _ => ?_
  generalize hkd : keptL n.toNat k.toNat s.toNat o = kept at *
  repeat' first
    | refine k_then ?_ | refine c_seq ?_ | refine c_region ?_ | refine s_nil ?_ | refine s_move (by exact rfl) (by exact rfl) ?_ | refine s_assign (by exact rfl) (by exact rfl) ?_ | refine s_neq (by exact rfl) (by exact rfl) (by exact rfl) ?_ | refine s_extract (by exact rfl) (by exact rfl) (by exact rfl) ?_ | refine s_ldk_box (by exact rfl) (by exact rfl) (by exact .tail _ (.head _)) (by exact rfl) (by exact rfl) ?_ | refine c_skip ?_ | (refine c_cond_p (by exact rfl) (fun h => ?_) (fun h => ?_) <;> try (exfalso; omega))
  refine o_call (by exact rfl) (by exact rfl) (fun w h => Only_ok n v es vk kept w hs (ro_old h hr) hR (by rw [hkl]; exact hvk) (ro_own h (by exact .head _))) ?_
  rintro _ _ ⟨vo, rfl, rfl⟩
  refine know_row (v := vo) (.head _) fun hvo _ => ?_
  skip
  refine o_call (by exact rfl) (by exact rfl) (fun w h => Components_ok n vo (es.filter (keepE kept)) w hvo (ro_own h (by exact .head _)) hRf) ?_
  rintro vc _ ⟨met, out, lab', hc, hB, hcl, rfl⟩
  have hLev' := hB.lev
  rw [hB.comps] at *
  refine know_row (v := vc) (.head _) fun hvc _ => ?_
  have hle := hLev'.le
  generalize hN : n.toNat = N at *
  have hnN : n = (N : Int) := by omega
  subst hnN
  have hcN : (compsS N lab').length ≤ N := compsI_length N N lab'
  have hne : ∀ c ∈ compsS N lab', ∃ r t, r < N ∧ c = r :: t := fun c hc => by
    obtain ⟨r, h1, h2, rfl⟩ := comp_mem hc
    obtain ⟨t, ht⟩ := comp_head h1 h2 hle
    exact ⟨r, t, h1, ht⟩
  generalize hcs : compsS N lab' = cs at *
  repeat' first
    | refine k_then ?_ | refine s_nil ?_ | refine s_move (by exact rfl) (by exact rfl) ?_ | refine s_len (by exact rfl) (by exact rfl) (by assumption) ?_ | refine c_block ?_
  refine c_nil 28 1 ?_
  refine c_star0 ?_
  refine c_loop (fun x : Nat × Value × List Value => x.1 ≤ cs.length ∧ x.2.2.length = (selL kept (cs.take x.1)).length) (fun x => [(6, x.2.1), (8, vk), (24, vc), (25, .int .i64 (cs.length : Int)), (26, .int .i64 (x.1 : Int))])
    (fun x => [rowHP x.2.1 28 1 (selL kept (cs.take x.1)).length x.2.2, starHP (kids rowN x.2.2 (selL kept (cs.take x.1))), rowHP vc 28 1 cs.length hc, starHP (kids rowN (hc.drop x.1) (cs.drop x.1)), rowHP vk 4 1 N (bV kept)]) (fun x => cs.length - x.1) (0, .slice none 0 0, []) [1, 0, 0, 0, 1] ⟨Nat.zero_le _, rfl⟩ (by exact rfl) ⟨rfl, rfl, rfl, rfl, rfl, trivial⟩ ?_
  rintro ⟨i, vp, hp⟩ ⟨hi, hpl⟩
  dsimp only at hi hpl ⊢
  by_cases hil : i < cs.length
  · obtain ⟨c, hci⟩ : ∃ c, cs[i]? = some c := ⟨_, List.getElem?_eq_getElem hil⟩
    obtain ⟨hd, hhd⟩ : ∃ hd, hc[i]? = some hd := ⟨_, List.getElem?_eq_getElem (by omega)⟩
    obtain ⟨r, t, hrN, rfl⟩ := hne c (List.mem_of_getElem? hci)
    have hst := selL_take (kept := kept) hci
    have hsl := selL_length kept cs i
    have hhd1 : hc[i * 1]? = some hd := by simpa using hhd
    have hh0 : (nV (r :: t))[0 * 1]? = some (.int .i64 (r : Int)) := rfl
    have hkr := bV_get (l := kept) (k := r) (by omega)
    rw [kids_drop hhd hci]
    refine c_uncons 3 (by exact rfl) ?_
    refine know_row (v := hd) (e := 3) (sz := 1) (m := (r :: t).length) (ys := nV (r :: t)) (.head _) fun hhs _ => ?_
    have hpos : 0 < (r :: t).length := by simp
    cases hkp : kept.getD r false
    · rw [hkp] at hkr
      rw [show kept.getD ((r :: t).headD 0) false = false from hkp, if_neg (by simp), List.append_nil] at hst
      repeat' first
        | refine k_then ?_ | refine c_seq ?_ | refine c_region ?_ | refine s_nil ?_ | refine s_move (by exact rfl) (by exact rfl) ?_ | refine s_assign (by exact rfl) (by exact rfl) ?_ | refine s_lss (by exact rfl) (by exact rfl) (by exact rfl) ?_ | refine s_add (by exact rfl) (by exact rfl) (by exact rfl) (by omega) ?_ | refine s_idx (by exact rfl) (by exact rfl) (by exact rfl) (by assumption) (by first | assumption | omega) ?_ | refine s_ld_row (by exact rfl) (by exact rfl) (by first | exact .head _ | exact .tail _ (.tail _ (.tail _ (.head _))) | exact .tail _ (.tail _ (.tail _ (.tail _ (.tail _ (.head _)))))) (by assumption) ?_ | refine c_block ?_ | refine c_skip ?_ | refine k_blk ?_ | (refine c_cond_p (by exact rfl) (fun h => ?_) (fun h => ?_) <;> try (exfalso; omega)) | refine c_cond_f (by exact rfl) ?_
      refine c_round (i + 1, vp, hp) [1, 1, 1, 1, 1] (by dsimp only; rw [hst]; rfl) (by exact ⟨rfl, rfl, rfl, rfl, rfl, trivial⟩) ⟨by dsimp only; omega, by dsimp only; rw [hst]; exact hpl⟩ (by dsimp only; omega)
    · rw [hkp] at hkr
      rw [show kept.getD ((r :: t).headD 0) false = true from hkp, if_pos rfl] at hst
      repeat' first
        | refine k_then ?_ | refine c_seq ?_ | refine c_region ?_ | refine s_nil ?_ | refine s_move (by exact rfl) (by exact rfl) ?_ | refine s_assign (by exact rfl) (by exact rfl) ?_ | refine s_lss (by exact rfl) (by exact rfl) (by exact rfl) ?_ | refine s_idx (by exact rfl) (by exact rfl) (by exact rfl) (by assumption) (by first | assumption | omega) ?_ | refine s_ld_row (by exact rfl) (by exact rfl) (by first | exact .head _ | exact .tail _ (.tail _ (.tail _ (.head _))) | exact .tail _ (.tail _ (.tail _ (.tail _ (.tail _ (.head _)))))) (by assumption) ?_ | refine c_block ?_ | refine c_skip ?_ | (refine c_cond_p (by exact rfl) (fun h => ?_) (fun h => ?_) <;> try (exfalso; omega)) | refine c_cond_t (by exact rfl) ?_
      refine o_mk [hd] (by exact rfl) (by exact rfl) rfl ?_ ?_ (by simp) fun vt hvt => ?_
      · intro u hu
        obtain rfl : u = hd := by simpa using hu
        rw [← Array.length_toList, one_cells hhs.one]; rfl
      · simp
      rw [show ([hd].flatMap fun u => u.cells.toList) = [hd] from by simp [one_cells hhs.one]]
      skip
      refine o_append_row (i := 2) (by exact rfl) (by exact rfl) (by exact rfl) (by exact rfl) (by exact .head _) (by exact rfl) (by simp [hhs.one]) ?_ fun vp2 hvp2 => ?_
      · omega
      repeat' first
        | refine k_then ?_ | refine c_region ?_ | refine s_nil ?_ | refine s_move (by exact rfl) (by exact rfl) ?_ | refine s_assign (by exact rfl) (by exact rfl) ?_ | refine s_add (by exact rfl) (by exact rfl) (by exact rfl) (by omega) ?_ | refine k_blk ?_
      refine c_pick [1, 1, 1, 1, 1, 1] (by exact rfl) ?_
      refine c_pushk 1 (by exact rfl) ?_
      refine c_round (i + 1, vp2, hp ++ [hd]) [0, 0, 0, 0, 0] ?_ (by exact ⟨rfl, rfl, rfl, rfl, rfl, trivial⟩) ⟨by dsimp only; omega, by dsimp only; rw [hst, List.length_append, List.length_append, hpl]; rfl⟩ (by dsimp only; omega)
      dsimp only
      rw [hst, kids_append hpl, List.length_append]
      rfl
  · repeat' first
      | refine k_then ?_ | refine c_seq ?_ | refine c_region ?_ | refine s_nil ?_ | refine s_move (by exact rfl) (by exact rfl) ?_ | refine s_assign (by exact rfl) (by exact rfl) ?_ | refine s_lss (by exact rfl) (by exact rfl) (by exact rfl) ?_ | refine c_exit ?_ | refine c_ret ?_ | refine k_then_exit ?_ | refine k_blk_eq ?_ | (refine c_cond_p (by exact rfl) (fun h => ?_) (fun h => ?_) <;> try (exfalso; omega))
    obtain rfl : i = cs.length := by omega
    rw [List.take_length] at *
    refine ret2 [0, 0] rfl rfl rfl rfl ⟨_, lab', vp, hp, hLev', rfl, ?_, ?_⟩
    · rw [hcs]; exact hpl
    · rw [hcs]
end Go.Proofs.YtpajjnkmaebhcabGreat
end
section
namespace Go.Proofs.YtpajjnkmaebhcabGreat
open Go.RowKit Go.Sl Fil
set_option maxRecDepth 100000
set_option maxHeartbeats 8000000
set_option linter.unusedVariables false
set_option linter.unusedSimpArgs false
attribute [local irreducible] Code.wp wpList bodyPost wpQuiet Exit.then Exit.inBlock Post wpAnyH wpOp
end Go.Proofs.YtpajjnkmaebhcabGreat
end
section
set_option linter.unusedVariables false
namespace Go.Proofs
open Go Go.RowKit Go.Maps Go.Sl
abbrev evNat (k : Nat) : Value := .int .i64 (k : Int)
instance : MapTy Tryz.prog 77 Int Nat ekI evNat okI 0 3 := mapTy_int Tryz.underlying77 Tryz.underlying3 (fun w => Tryz.zeroValue3 w)
end Go.Proofs
namespace Go.Sl
open Go Go.RowKit
section
variable {P : Program} {w0 : World} {S0 : FS} {n : Nat} {F : List (Nat × Value)} {L : List HP} {rest : List Oper} {ops : Array Oper} {Q : Exit → Act → World → Prop} {d : Nat} {ty : TypeId} {ps : String} {af : Array Edge}
theorem s_look2 {x y : Operand} {ka : Value} {t k : TypeId} {α β : Type} {ek : α → Value} {ev0 : β → Value} {ok : α → Prop} {z : β} {s : Value} {ks : List (α × β)} {a : α} {ob : Option β} [DecidableEq α] [T : MapTy P t α β ek ev0 ok z k] (hn : Nat.blt d n = true) (hx : ev F x = some s) (hy : ev F y = some ka) (hL : mapHP ek ev0 ok s ks ∈ L) (hka : ka = ek a) (hv : getK ks a = ob) (ha : ok a) (h : Reach w0 S0 n ((d, .tuple #[ev0 (ob.getD z), .bool ob.isSome]) :: F) L (wpList P ops Q rest)) : Reach w0 S0 n F L (wpList P ops Q (⟨some d, .lookup t x y true, ty, ps, af, none⟩ :: rest)) :=
  s_q rfl rfl hn (R1.q (by have := q_look2_of (P := P) (w0 := w0) (S0 := S0) (n := n) (F := F) (L := L) (o := ⟨some d, .lookup t x y true, ty, ps, af, none⟩) (T := T) (fun w hs => (hs.mem hL).elim fun _ h => mapHP_rd h) rfl hx hy hka ha; rw [hv] at this; exact this)) h
end
end Go.Sl
namespace Fil
open Go.Sl
/-- each with its place -/
def placeL (p : List Nat) (j : Nat) : List (Int × Nat) := (List.range j).map fun i => ((p.getD i 0 : Int), i)
theorem placeL_succ (p : List Nat) (j : Nat) : placeL p (j + 1) = placeL p j ++ [((p.getD j 0 : Int), j)] := by rw [placeL, List.range_succ, List.map_append]; rfl
theorem placeL_keys (p : List Nat) (j : Nat) (hj : j ≤ p.length) : (placeL p j).map Prod.fst = (p.take j).map fun u : Nat => (u : Int) := by
  rw [placeL, List.map_map]
  apply List.ext_getElem?
  intro i
  rw [List.getElem?_map, List.getElem?_map, List.getElem?_take]
  by_cases h : i < j
  · rw [List.getElem?_range h, if_pos h, List.getElem?_eq_getElem (by omega)]
    simp [List.getD_eq_getElem?_getD, List.getElem?_eq_getElem (show i < p.length by omega)]
  · rw [List.getElem?_eq_none (by simpa using h), if_neg h]; rfl
theorem placeL_get {p : List Nat} (hn : p.Nodup) (u : Nat) : getK (placeL p p.length) (u : Int) = if u ∈ p then some (p.idxOf u) else none := by
  have hk : (placeL p p.length).map Prod.fst = p.map fun u : Nat => (u : Int) := by rw [placeL_keys p _ (Nat.le_refl _), List.take_length]
  split
  · rename_i hu
    have hi := List.idxOf_lt_length_iff.2 hu
    refine getK_some ?_ (List.mem_map.2 ⟨p.idxOf u, List.mem_range.2 hi, ?_⟩)
    · rw [hk, List.Nodup, List.pairwise_map]
      exact hn.imp fun h e => h (by omega)
    · rw [List.getD_eq_getElem?_getD, List.getElem?_eq_getElem hi, List.getElem_idxOf]; rfl
  · rename_i hu
    refine getK_none ?_
    rw [hk, List.mem_map]
    rintro ⟨a, ha, e⟩
    exact hu (by rw [show u = a by omega]; exact ha)
theorem max_len {nb : Nat → List Nat} {N : Nat} {keep : Nat → Bool} {l : List Nat} (h : MaxIn nb N keep l) : l.length ≤ N := nodup_length h.ind.nd fun u hu => (h.mem u hu).1
theorem renE_in {n : Int} {es : List E} (hR : RightG n es) {p : List Nat} {e : E} (he : e ∈ es) : (e.1.toNat : Int) = e.1 ∧ (e.2.1.toNat : Int) = e.2.1 := by
  obtain ⟨h1, h2, _⟩ := hR.ok e he
  omega
end Fil
namespace Go.Proofs.YtpajjnkmaebhcabGreat
open Go Go.RowKit Go.Sl Fil
set_option maxRecDepth 100000
set_option maxHeartbeats 8000000
set_option linter.unusedVariables false
set_option linter.unusedSimpArgs false
attribute [local irreducible] Code.wp wpList bodyPost wpQuiet Exit.then Exit.inBlock Post wpAnyH wpOp
theorem makeR_right {n : Int} {es : List E} (hR : RightG n es) : makeR n es = (0, es) := by
  have h0 : sizesK n es.length = 0 := by
    have := hR.lo; have := hR.hi; have := hR.many
    simp only [sizesK]
    rw [if_neg (by omega), if_neg (by omega)]
  have hal : ∀ e ∈ es, aloneK n e.1 e.2.1 e.2.2 = 0 := fun e he => by
    obtain ⟨o1, o2, o3, o4, o5⟩ := hR.ok e he
    simp only [aloneK]
    rw [if_neg (by omega), if_neg (by omega), if_neg (by omega)]
  have hsw : es.map swapE = es := by
    refine (List.map_congr_left fun e he => ?_).trans (List.map_id _)
    obtain ⟨o1, o2, _⟩ := hR.ok e he
    rw [swapE, if_neg (by omega)]; rfl
  obtain ⟨m, m1, m2, m3⟩ := (makeF_all es [] hal .nil).1 (by rw [List.nil_append, hsw]; exact hR.sorted.imp ltE_ne)
  rw [List.nil_append, hsw] at m3
  rw [makeR, if_pos h0, m1, sorted_one m2 hR.sorted m3]
theorem Shift_ok (n : Int) (v : Value) (es : List E) (k s : Int) (o lab : Nat → Nat) (w : World) (hs : Shp v es.length) (hr : RO w No v (esV es)) (hR : RightG n es) (hLev : Lev n.toNat (nb (tn es)) o lab) (hk : 1 ≤ k ∧ k ≤ 8 ∧ 0 ≤ s ∧ s ≤ k) (h39 : n ≤ 39) :
    Calls Tryz.prog 20 #[.agg #[.int .i64 n, v], .int .i64 k, .int .i64 s] w (Post w No fun r L' => ∃ (vo : Value) (l : List Nat), r = .tuple #[vo, .int .i64 0] ∧ L' = [rowHP vo 3 1 l.length (nV l)] ∧ Asc l ∧ MaxIn (nearS (tn es)) n.toNat (fun u => (keptL n.toNat k.toNat s.toNat o).getD u false) l) := by
  have hlo := hR.lo
  have hhi := hR.hi
  have hmany := hR.many
  have hkl : (keptL n.toNat k.toNat s.toNat o).length = n.toNat := by simp [keptL]
  refine enter0 (vs := [_, _, _]) Tryz.func20 rfl Tryz.ntmps20 rfl ?_
  repeat' first
    | refine k_then ?_ | refine c_seq ?_ | refine c_region ?_ | refine s_nil ?_ | refine s_move (by exact rfl) (by exact rfl) ?_ | refine s_assign (by exact rfl) (by exact rfl) ?_ | refine s_ldk_box (by exact rfl) (by exact rfl) (by exact .head _) (by exact rfl) (by exact rfl) ?_ | refine o_box (by exact rfl) (by exact rfl) (fun b => ?_) | fail
  revert b; intro bg
  refine o_call (by exact rfl) (by exact rfl) (fun w h => Pieces_ok n v es k s o lab w hs (ro_old h hr) hR hLev hk) ?_
  rintro _ _ ⟨o', lab', vp, hp, hLev', rfl, hpl, rfl⟩
  refine know_row (v := vp) (by exact .head _) fun hvp _ => ?_
  generalize hkd : keptL n.toNat k.toNat s.toNat o = kept at *
  have hcl : (selL kept (compsS n.toNat lab')).length ≤ n.toNat := by
    have h1 := selL_length kept (compsS n.toNat lab') (compsS n.toNat lab').length
    rw [List.take_length] at h1
    have h3 : (compsS n.toNat lab').length ≤ n.toNat := compsI_length n.toNat n.toNat lab'
    omega
  repeat' first
    | refine k_then ?_ | refine c_seq ?_ | refine c_region ?_ | refine s_nil ?_ | refine s_move (by exact rfl) (by exact rfl) ?_ | refine s_assign (by exact rfl) (by exact rfl) ?_ | refine s_neq (by exact rfl) (by exact rfl) (by exact rfl) ?_ | refine s_len (by exact rfl) (by exact rfl) (by assumption) ?_ | refine s_extract (by exact rfl) (by exact rfl) (by exact rfl) ?_ | refine c_block ?_ | refine c_skip ?_ | (refine c_cond_p (by exact rfl) (fun h => ?_) (fun h => ?_) <;> try (exfalso; omega)) | fail
  refine c_nil 3 1 ?_
  refine c_loop (fun x : Nat × Value × List Nat => x.1 ≤ (selL kept (compsS n.toNat lab')).length ∧ MaxIn (nearS (tn es)) n.toNat (fun u => decide (u ∈ ((selL kept (compsS n.toNat lab')).take x.1).flatten)) x.2.2) (fun x => [(3, .pointer (some ⟨bg, 0, none⟩)), (6, x.2.1), (7, .int .i64 0), (37, vp), (38, .int .i64 ((selL kept (compsS n.toNat lab')).length : Int)), (39, .int .i64 (x.1 : Int))])
    (fun x => [rowHP x.2.1 3 1 x.2.2.length (nV x.2.2), rowHP vp 28 1 (selL kept (compsS n.toNat lab')).length hp, starHP (kids rowN hp (selL kept (compsS n.toNat lab'))), boxHP bg 24 [.int .i64 n, v]]) (fun x => (selL kept (compsS n.toNat lab')).length - x.1) (0, .slice none 0 0, []) [0, 0, 0, 0] ⟨Nat.zero_le _, MaxIn.nil _ _⟩ (by exact rfl) ⟨rfl, rfl, rfl, rfl, rfl, rfl, trivial⟩ ?_
  rintro ⟨i, vo, out⟩ ⟨hi, hO⟩
  dsimp only at hi hO ⊢
  have hol := max_len hO
  by_cases hil : i < (selL kept (compsS n.toNat lab')).length
  · obtain ⟨p, hpi⟩ : ∃ p, (selL kept (compsS n.toNat lab'))[i]? = some p := ⟨_, List.getElem?_eq_getElem hil⟩
    obtain ⟨hd, hhd⟩ : ∃ hd, hp[i]? = some hd := ⟨_, List.getElem?_eq_getElem (by omega)⟩
    have hhd1 : hp[i * 1]? = some hd := by rw [Nat.mul_one]; exact hhd
    have hkd1 : rowHP hd 3 1 p.length (nV p) ∈ kids rowN hp (selL kept (compsS n.toNat lab')) := kids_mem (f := rowN) hhd hpi
    have hpm := List.mem_of_getElem? hpi
    have hpa := sel_asc hpm
    have hpn := hpa.nodup
    obtain ⟨r, t, hrn, hpe, hkr, hlr, hpmem⟩ := sel_mem hLev'.le hpm
    have hpN : ∀ u ∈ p, u < n.toNat := fun u hu => ((hpmem u).1 hu).1
    have hpl1 : p.length ≤ n.toNat := nodup_length hpn hpN
    have hmore := fun l => shift_more hR hLev' hpi hO (l := l)
    repeat' first
      | refine k_then ?_ | refine c_seq ?_ | refine c_region ?_ | refine s_nil ?_ | refine s_assign (by exact rfl) (by exact rfl) ?_ | refine s_lss (by exact rfl) (by exact rfl) (by exact rfl) ?_ | refine s_idx (by exact rfl) (by exact rfl) (by exact rfl) (by assumption) (by first | assumption | omega) ?_ | refine s_ld_row (by exact rfl) (by exact rfl) (by exact .tail _ (.head _)) (by assumption) ?_ | refine c_block ?_ | refine c_skip ?_ | (refine c_cond_p (by exact rfl) (fun h => ?_) (fun h => ?_) <;> try (exfalso; omega)) | fail
    refine know_kid (by exact .tail _ (.tail _ (.head _))) hkd1 fun hsd _ => ?_
    skip
    refine o_makeMap (by exact rfl) fun bm => ?_
    repeat' first
      | refine k_then ?_ | refine c_seq ?_ | refine c_region ?_ | refine s_nil ?_ | refine s_move (by exact rfl) (by exact rfl) ?_ | refine s_assign (by exact rfl) (by exact rfl) ?_ | refine s_len (by exact rfl) (by exact rfl) (by assumption) ?_ | refine c_block ?_ | fail
    refine c_loop (fun j : Nat => j ≤ p.length) (fun j => [(3, .pointer (some ⟨bg, 0, none⟩)), (6, vo), (7, .int .i64 0), (10, hd), (11, .map (some bm)), (37, vp), (38, .int .i64 ((selL kept (compsS n.toNat lab')).length : Int)), (39, .int .i64 (i : Int)), (44, hd), (45, .int .i64 (p.length : Int)), (46, .int .i64 (j : Int))])
      (fun j => [mapHP ekI evNat okI (.map (some bm)) (placeL p j), rowHP vo 3 1 out.length (nV out), rowHP vp 28 1 (selL kept (compsS n.toNat lab')).length hp, starHP (kids rowN hp (selL kept (compsS n.toNat lab'))), boxHP bg 24 [.int .i64 n, v]]) (fun j => p.length - j) 0 [0, 0, 0, 0, 0] (Nat.zero_le _) (by exact rfl) ⟨rfl, rfl, rfl, rfl, rfl, rfl, rfl, rfl, rfl, rfl, rfl, trivial⟩ ?_
    rintro j hj
    by_cases hjl : j < p.length
    · have hju : p[j]? = some (p.getD j 0) := by rw [List.getD_eq_getElem?_getD, List.getElem?_eq_getElem hjl]; rfl
      have hjv : (nV p)[j * 1]? = some (.int .i64 (p.getD j 0 : Nat)) := by rw [Nat.mul_one, nV, List.getElem?_map, hju]; rfl
      have hjN := hpN _ (List.mem_of_getElem? hju)
      have hput : putK (placeL p j) (p.getD j 0 : Int) j = placeL p (j + 1) := by
        rw [placeL_succ]
        refine putK_new ?_
        rw [placeL_keys p j hj, List.mem_map]
        rintro ⟨a, ha, e⟩
        have e : a = p.getD j 0 := by omega
        obtain ⟨i2, hi2⟩ := List.getElem?_of_mem ha
        rw [List.getElem?_take] at hi2
        split at hi2
        · rename_i h2
          have := (List.getElem?_inj (show i2 < p.length by omega) hpn (j := j)).1 (by rw [hi2, hju, e])
          omega
        · simp at hi2
      generalize p.getD j 0 = u at *
      repeat' first
        | refine k_then ?_ | refine c_seq ?_ | refine c_region ?_ | refine s_nil ?_ | refine s_move (by exact rfl) (by exact rfl) ?_ | refine s_assign (by exact rfl) (by exact rfl) ?_ | refine s_lss (by exact rfl) (by exact rfl) (by exact rfl) ?_ | refine s_idx (by exact rfl) (by exact rfl) (by exact rfl) (by assumption) (by first | assumption | omega) ?_ | refine s_ld_kid (by exact rfl) (by exact rfl) (by assumption) (by exact .tail _ (.tail _ (.tail _ (.head _)))) (by assumption) ?_ | refine c_block ?_ | refine c_skip ?_ | (refine c_cond_p (by exact rfl) (fun h => ?_) (fun h => ?_) <;> try (exfalso; omega)) | fail
      refine o_mapup (ek := ekI) (ev := evNat) (ok := okI) (i := 0) (u : Int) j (by exact rfl) (by exact rfl) (by exact rfl) (by exact rfl) rfl rfl ⟨by omega, by omega⟩ ?_
      rw [hput]
      repeat' first
        | refine k_then ?_ | refine c_region ?_ | refine s_nil ?_ | refine s_move (by exact rfl) (by exact rfl) ?_ | refine s_add (by exact rfl) (by exact rfl) (by exact rfl) (by omega) ?_ | refine k_blk ?_ | fail
      refine c_round (j + 1) [0, 0, 0, 0, 0] (by exact rfl) ⟨rfl, rfl, rfl, rfl, rfl, rfl, rfl, rfl, rfl, rfl, rfl, trivial⟩ (by omega) (by omega)
    obtain rfl : j = p.length := by omega
    have hpg := placeL_get hpn
    repeat' first
      | refine k_then ?_ | refine c_seq ?_ | refine c_region ?_ | refine s_nil ?_ | refine s_move (by exact rfl) (by exact rfl) ?_ | refine s_assign (by exact rfl) (by exact rfl) ?_ | refine s_fa (by exact rfl) (by exact rfl) ?_ | refine s_ld_box (by exact rfl) (by exact rfl) (by exact .tail _ (.tail _ (.tail _ (.tail _ (.head _))))) (by exact rfl) ?_ | refine s_lss (by exact rfl) (by exact rfl) (by exact rfl) ?_ | refine s_len (by exact rfl) (by exact rfl) (by assumption) ?_ | refine c_block ?_ | refine c_exit ?_ | refine k_then_exit ?_ | refine k_blk_eq ?_ | (refine c_cond_p (by exact rfl) (fun h => ?_) (fun h => ?_) <;> try (exfalso; omega)) | fail
    refine c_nil 37 3 ?_
    refine c_loop (fun x : Nat × Value => x.1 ≤ es.length) (fun x => [(3, .pointer (some ⟨bg, 0, none⟩)), (6, vo), (7, .int .i64 0), (10, hd), (11, .map (some bm)), (14, x.2), (37, vp), (38, .int .i64 ((selL kept (compsS n.toNat lab')).length : Int)), (39, .int .i64 (i : Int)), (56, v), (57, .int .i64 (es.length : Int)), (58, .int .i64 (x.1 : Int))])
      (fun x => [rowHP x.2 37 3 (renL p (es.take x.1)).length (esV (renL p (es.take x.1))), mapHP ekI evNat okI (.map (some bm)) (placeL p p.length), rowHP vo 3 1 out.length (nV out), rowHP vp 28 1 (selL kept (compsS n.toNat lab')).length hp, starHP (kids rowN hp (selL kept (compsS n.toNat lab'))), boxHP bg 24 [.int .i64 n, v]]) (fun x => es.length - x.1) (0, .slice none 0 0) [0, 0, 0, 0, 0, 0] (Nat.zero_le _) (by exact rfl) ⟨rfl, rfl, rfl, rfl, rfl, rfl, rfl, rfl, rfl, rfl, rfl, rfl, trivial⟩ ?_
    rintro ⟨k2, ve⟩ hk2
    dsimp only at hk2 ⊢
    by_cases hkl2 : k2 < es.length
    · obtain ⟨e, he⟩ : ∃ e, es[k2]? = some e := ⟨_, List.getElem?_eq_getElem hkl2⟩
      have hE := esV_at he
      have hem := List.mem_of_getElem? he
      obtain ⟨q1, q2⟩ := renE_in hR (p := p) hem
      obtain ⟨o1, o2, o3, o4, _⟩ := hR.ok e hem
      have hsn := renL_snoc (p := p) he
      have hrl : (renL p (es.take k2)).length ≤ k2 := by
        have := renL_length p (es.take k2)
        rw [List.length_take] at this; omega
      have g1 := hpg e.1.toNat
      have g2 := hpg e.2.1.toNat
      rw [q1] at g1
      rw [q2] at g2
      repeat' first
        | refine k_then ?_ | refine c_seq ?_ | refine c_region ?_ | refine s_nil ?_ | refine s_lss (by exact rfl) (by exact rfl) (by exact rfl) ?_ | refine s_idx (by exact rfl) (by exact rfl) (by exact rfl) (by assumption) (by first | assumption | omega) ?_ | refine s_ldk_ro (by exact rfl) (by exact rfl) (by assumption) (by decide) (by assumption) (by exact rfl) ?_ | refine o_alloc (by exact rfl) (fun b => ?_) | refine c_block ?_ | refine c_skip ?_ | (refine c_cond_p (by exact rfl) (fun h => ?_) (fun h => ?_) <;> try (exfalso; omega)) | fail
      refine o_stk_box (i := 0) (us := eV e) (by exact rfl) (by exact rfl) (by exact rfl) (by exact rfl) (by exact rfl) (by simp [eV, Value.oneCell']) (by simp [Value.cells]) ?_
      repeat' first
        | refine k_then ?_ | refine c_seq ?_ | refine c_region ?_ | refine s_nil ?_ | refine s_move (by exact rfl) (by exact rfl) ?_ | refine s_fa (by exact rfl) (by exact rfl) ?_ | refine s_ld_box (by exact rfl) (by exact rfl) (by exact .head _) (by exact rfl) ?_ | fail
      refine s_look2 (a := e.1) (ek := ekI) (ev0 := evNat) (ok := okI) (by exact rfl) (by exact rfl) (by exact rfl) (by exact .tail _ (.tail _ (.head _))) rfl g1 ⟨by omega, by omega⟩ ?_
      repeat' first
        | refine k_then ?_ | refine c_seq ?_ | refine c_region ?_ | refine s_nil ?_ | refine s_move (by exact rfl) (by exact rfl) ?_ | refine s_assign (by exact rfl) (by exact rfl) ?_ | refine s_fa (by exact rfl) (by exact rfl) ?_ | refine s_ld_box (by exact rfl) (by exact rfl) (by exact .head _) (by exact rfl) ?_ | refine s_extract (by exact rfl) (by exact rfl) (by exact rfl) ?_ | fail
      refine s_look2 (a := e.2.1) (ek := ekI) (ev0 := evNat) (ok := okI) (by exact rfl) (by exact rfl) (by exact rfl) (by exact .tail _ (.tail _ (.head _))) rfl g2 ⟨by omega, by omega⟩ ?_
      by_cases m1 : e.1.toNat ∈ p
      · by_cases m2 : e.2.1.toNat ∈ p
        · rw [if_pos m1, if_pos m2]
          have hin : inP p e = true := by simp [inP, m1, m2]
          rw [hin, if_pos rfl] at hsn
          repeat' first
            | refine k_then ?_ | refine c_seq ?_ | refine c_region ?_ | refine s_nil ?_ | refine s_move (by exact rfl) (by exact rfl) ?_ | refine s_assign (by exact rfl) (by exact rfl) ?_ | refine s_fa (by exact rfl) (by exact rfl) ?_ | refine s_ld_box (by exact rfl) (by exact rfl) (by exact .head _) (by exact rfl) ?_ | refine s_extract (by exact rfl) (by exact rfl) (by exact rfl) ?_ | refine s_pick_t (by exact rfl) (by exact rfl) (by exact rfl) ?_ | refine c_cond_t (by exact rfl) ?_ | refine w_move (by exact rfl) (by exact rfl) (by exact rfl) (by exact rfl) ?_ | fail
          refine o_build (cs := eV (renE p e)) [(0, .int .i64 (p.idxOf e.1.toNat : Int), [.int .i64 (p.idxOf e.1.toNat : Int)]), (1, .int .i64 (p.idxOf e.2.1.toNat : Int), [.int .i64 (p.idxOf e.2.1.toNat : Int)]), (2, .int .i64 e.2.2, [.int .i64 e.2.2])] (by exact rfl) (by exact rfl) (by simp [Value.cells]) (by exact rfl) ?_
          refine o_mk [.agg (eV (renE p e)).toArray] (by exact rfl) (by exact rfl) rfl (by simp [Value.cells, eV]) (by simp) (by simp) fun v2 hv2 => ?_
          refine o_append_row (bytes := 24) (i := 2) (by exact rfl) (by exact rfl) (by exact rfl) (by exact rfl) (.head _) (by simp [Value.cells, eV]) (by simp [Value.cells, eV, Value.oneCell']) (by omega) fun v3 hv3 => ?_
          repeat' first
            | refine k_then ?_ | refine c_region ?_ | refine s_nil ?_ | refine s_move (by exact rfl) (by exact rfl) ?_ | refine s_assign (by exact rfl) (by exact rfl) ?_ | refine s_add (by exact rfl) (by exact rfl) (by exact rfl) (by omega) ?_ | refine k_blk ?_ | fail
          refine c_round (k2 + 1, v3) [2, 2, 2, 2, 2, 2] ?_ ⟨rfl, rfl, rfl, rfl, rfl, rfl, rfl, rfl, rfl, rfl, rfl, rfl, trivial⟩ (by dsimp only; omega) (by dsimp only; omega)
          dsimp only
          rw [hsn, List.length_append, esV_append]
          exact rfl
        · rw [if_pos m1, if_neg m2]
          have hin : inP p e = false := by simp [inP, m2]
          rw [hin, if_neg (by simp), List.append_nil] at hsn
          repeat' first
            | refine k_then ?_ | refine c_seq ?_ | refine c_region ?_ | refine s_nil ?_ | refine s_move (by exact rfl) (by exact rfl) ?_ | refine s_assign (by exact rfl) (by exact rfl) ?_ | refine s_add (by exact rfl) (by exact rfl) (by exact rfl) (by omega) ?_ | refine s_extract (by exact rfl) (by exact rfl) (by exact rfl) ?_ | refine s_pick_t (by exact rfl) (by exact rfl) (by exact rfl) ?_ | refine c_skip ?_ | refine k_blk ?_ | refine c_cond_f (by exact rfl) ?_ | refine w_move (by exact rfl) (by exact rfl) (by exact rfl) (by exact rfl) ?_ | fail
          refine c_round (k2 + 1, ve) [1, 1, 1, 1, 1, 1] (by dsimp only; rw [hsn]; exact rfl) ⟨rfl, rfl, rfl, rfl, rfl, rfl, rfl, rfl, rfl, rfl, rfl, rfl, trivial⟩ (by dsimp only; omega) (by dsimp only; omega)
      · rw [if_neg m1]
        have hin : inP p e = false := by simp [inP, m1]
        rw [hin, if_neg (by simp), List.append_nil] at hsn
        repeat' first
          | refine k_then ?_ | refine c_seq ?_ | refine c_region ?_ | refine s_nil ?_ | refine s_move (by exact rfl) (by exact rfl) ?_ | refine s_assign (by exact rfl) (by exact rfl) ?_ | refine s_add (by exact rfl) (by exact rfl) (by exact rfl) (by omega) ?_ | refine s_extract (by exact rfl) (by exact rfl) (by exact rfl) ?_ | refine s_pick_f (by exact rfl) (by exact rfl) (by exact rfl) ?_ | refine c_skip ?_ | refine k_blk ?_ | refine c_cond_f (by exact rfl) ?_ | refine g_skip (by exact rfl) (by exact rfl) (by exact rfl) (by exact rfl) ?_ | fail
        refine c_round (k2 + 1, ve) [1, 1, 1, 1, 1, 1] (by dsimp only; rw [hsn]; exact rfl) ⟨rfl, rfl, rfl, rfl, rfl, rfl, rfl, rfl, rfl, rfl, rfl, rfl, trivial⟩ (by dsimp only; omega) (by dsimp only; omega)
    obtain rfl : k2 = es.length := by omega
    rw [List.take_length]
    have hGr := renL_right hR hpa (by omega)
    refine know_row (v := ve) (.head _) fun hve _ => ?_
    have hrl := hGr.many
    repeat' first
      | refine k_then ?_ | refine c_seq ?_ | refine c_region ?_ | refine s_nil ?_ | refine s_move (by exact rfl) (by exact rfl) ?_ | refine s_lss (by exact rfl) (by exact rfl) (by exact rfl) ?_ | refine s_len (by exact rfl) (by exact rfl) (by assumption) ?_ | refine c_exit ?_ | refine k_then_exit ?_ | refine k_blk_eq ?_ | (refine c_cond_p (by exact rfl) (fun h => ?_) (fun h => ?_) <;> try (exfalso; omega)) | fail
    refine o_call (vs := [.int .i64 (p.length : Int), ve]) (by exact rfl) (by exact rfl) (fun w h => Make_ok (p.length : Int) ve (renL p es) w hve (ro_own h (by exact .head _)) (by omega)) ?_
    rintro _ _ ⟨vh, kk, m, rfl, rfl, hmk⟩
    obtain ⟨rfl, rfl⟩ : kk = 0 ∧ m = renL p es := by
      have := hmk.eq
      rw [makeR_right hGr] at this
      exact ⟨(Prod.mk.inj this).1.symm, (Prod.mk.inj this).2.symm⟩
    rw [if_pos rfl]
    refine know_row (v := vh) (.head _) fun hvh _ => ?_
    repeat' first
      | refine s_move (by exact rfl) (by exact rfl) ?_ | refine s_extract (by exact rfl) (by exact rfl) (by exact rfl) ?_ | refine o_alloc (by exact rfl) (fun b => ?_) | fail
    refine o_stk_box (i := 0) (us := [.int .i64 (p.length : Int), vh]) (by exact rfl) (by exact rfl) (by exact rfl) (by exact rfl) (by exact rfl) (by
      intro u hu
      simp only [List.mem_cons, List.not_mem_nil, or_false] at hu
      rcases hu with rfl | rfl
      · rfl
      · exact hvh.one) (by simp [Value.cells]) ?_
    repeat' first
      | refine k_then ?_ | refine c_seq ?_ | refine c_region ?_ | refine s_nil ?_ | refine s_assign (by exact rfl) (by exact rfl) ?_ | refine s_ldk_box (by exact rfl) (by exact rfl) (by exact .head _) (by exact rfl) (by exact rfl) ?_ | fail
    refine o_call (vs := [.agg #[.int .i64 (p.length : Int), vh]]) (by exact rfl) (by exact rfl) (fun w h => Max_ok (p.length : Int) vh (renL p es) w hvh (ro_own h (by exact .tail _ (.head _))) hGr (by omega)) ?_
    rintro _ _ ⟨vi, l, rfl, rfl, hla, hM⟩
    rw [Int.toNat_natCast] at hM
    have hll := max_len hM
    have hO2 := hmore l hM
    refine know_row (v := vi) (.head _) fun hvi _ => ?_
    repeat' first
      | refine k_then ?_ | refine c_seq ?_ | refine c_region ?_ | refine s_nil ?_ | refine s_move (by exact rfl) (by exact rfl) ?_ | refine s_assign (by exact rfl) (by exact rfl) ?_ | refine s_len (by exact rfl) (by exact rfl) (by assumption) ?_ | refine s_extract (by exact rfl) (by exact rfl) (by exact rfl) ?_ | refine c_block ?_ | fail
    have hlp : ∀ (j q : Nat), l[j]? = some q → q < p.length := fun j q hq => (hM.mem q (List.mem_of_getElem? hq)).1
    refine c_loop (fun x : Nat × Value => x.1 ≤ l.length) (fun x => [(3, .pointer (some ⟨bg, 0, none⟩)), (6, x.2), (7, .int .i64 0), (10, hd), (37, vp), (38, .int .i64 ((selL kept (compsS n.toNat lab')).length : Int)), (39, .int .i64 (i : Int)), (101, vi), (102, .int .i64 (l.length : Int)), (103, .int .i64 (x.1 : Int))])
      (fun x => [rowHP vi 3 1 l.length (nV l), rowHP x.2 3 1 (out ++ (l.take x.1).map fun i => p.getD i 0).length (nV (out ++ (l.take x.1).map fun i => p.getD i 0)), rowHP vp 28 1 (selL kept (compsS n.toNat lab')).length hp, starHP (kids rowN hp (selL kept (compsS n.toNat lab'))), boxHP bg 24 [.int .i64 n, v]]) (fun x => l.length - x.1) (0, vo) [0, 4, 4, 4, 4] (Nat.zero_le _) (by simp only [List.take_zero, List.map_nil, List.append_nil]; exact rfl) ⟨rfl, rfl, rfl, rfl, rfl, rfl, rfl, rfl, rfl, rfl, trivial⟩ ?_
    rintro ⟨j, vo2⟩ hj
    dsimp only at hj ⊢
    by_cases hjl : j < l.length
    · obtain ⟨q, hq⟩ : ∃ q, l[j]? = some q := ⟨_, List.getElem?_eq_getElem hjl⟩
      have hqp := hlp j q hq
      have hjv : (nV l)[j * 1]? = some (.int .i64 (q : Int)) := by rw [Nat.mul_one, nV, List.getElem?_map, hq]; rfl
      have hpq : p[q]? = some (p.getD q 0) := by rw [List.getD_eq_getElem?_getD, List.getElem?_eq_getElem hqp]; rfl
      have hpv : (nV p)[q * 1]? = some (.int .i64 (p.getD q 0 : Nat)) := by rw [Nat.mul_one, nV, List.getElem?_map, hpq]; rfl
      have htk : (l.take (j + 1)).map (fun i => p.getD i 0) = (l.take j).map (fun i => p.getD i 0) ++ [p.getD q 0] := by rw [List.take_add_one, hq]; simp
      have hlt2 : (out ++ (l.take j).map fun i => p.getD i 0).length ≤ 2000 := by rw [List.length_append, List.length_map, List.length_take]; omega
      generalize p.getD q 0 = u at *
      generalize hA : out ++ (l.take j).map (fun i => p.getD i 0) = A at *
      repeat' first
        | refine k_then ?_ | refine c_seq ?_ | refine c_region ?_ | refine s_nil ?_ | refine s_move (by exact rfl) (by exact rfl) ?_ | refine s_assign (by exact rfl) (by exact rfl) ?_ | refine s_lss (by exact rfl) (by exact rfl) (by exact rfl) ?_ | refine s_idx (by exact rfl) (by exact rfl) (by exact rfl) (by assumption) (by first | assumption | omega) ?_ | refine s_ld_row (by exact rfl) (by exact rfl) (by exact .head _) (by assumption) ?_ | refine s_ld_kid (by exact rfl) (by exact rfl) (by assumption) (by exact .tail _ (.tail _ (.tail _ (.head _)))) (by assumption) ?_ | refine c_block ?_ | refine c_skip ?_ | (refine c_cond_p (by exact rfl) (fun h => ?_) (fun h => ?_) <;> try (exfalso; omega)) | fail
      refine o_mk [.int .i64 (u : Int)] (by exact rfl) (by exact rfl) rfl (by simp [Value.cells]) (by simp) (by simp) fun v2 hv2 => ?_
      refine o_append_row (bytes := 8) (i := 2) (by exact rfl) (by exact rfl) (by exact rfl) (by exact rfl) (.head _) (by simp [Value.cells]) (by simp [Value.cells, Value.oneCell']) (by omega) fun v3 hv3 => ?_
      repeat' first
        | refine k_then ?_ | refine c_region ?_ | refine s_nil ?_ | refine s_move (by exact rfl) (by exact rfl) ?_ | refine s_assign (by exact rfl) (by exact rfl) ?_ | refine s_add (by exact rfl) (by exact rfl) (by exact rfl) (by omega) ?_ | refine k_blk ?_ | fail
      refine c_round (j + 1, v3) [1, 1, 1, 1, 1] ?_ ⟨rfl, rfl, rfl, rfl, rfl, rfl, rfl, rfl, rfl, rfl, trivial⟩ (by dsimp only; omega) (by dsimp only; omega)
      dsimp only
      rw [htk, ← List.append_assoc, hA, show nV (A ++ [u]) = nV A ++ [.int .i64 (u : Int)] by simp [nV], List.length_append]
      exact rfl
    obtain rfl : j = l.length := by omega
    rw [List.take_length]
    repeat' first
      | refine k_then ?_ | refine c_seq ?_ | refine c_region ?_ | refine s_nil ?_ | refine s_move (by exact rfl) (by exact rfl) ?_ | refine s_lss (by exact rfl) (by exact rfl) (by exact rfl) ?_ | refine s_add (by exact rfl) (by exact rfl) (by exact rfl) (by omega) ?_ | refine c_exit ?_ | refine k_then_exit ?_ | refine k_blk ?_ | refine k_blk_eq ?_ | (refine c_cond_p (by exact rfl) (fun h => ?_) (fun h => ?_) <;> try (exfalso; omega)) | fail
    refine c_round (i + 1, vo2, out ++ l.map fun i => p.getD i 0) [1, 1, 1, 1] (by exact rfl) ⟨rfl, rfl, rfl, rfl, rfl, rfl, trivial⟩ ⟨by dsimp only; omega, hO2⟩ (by dsimp only; omega)
  · obtain rfl : i = (selL kept (compsS n.toNat lab')).length := by omega
    rw [List.take_length] at hO
    have hMf := hO.congr (k' := fun u => kept.getD u false) fun u hu => shift_all hR hLev' hu
    repeat' first
      | refine k_then ?_ | refine c_seq ?_ | refine c_region ?_ | refine s_nil ?_ | refine s_move (by exact rfl) (by exact rfl) ?_ | refine s_lss (by exact rfl) (by exact rfl) (by exact rfl) ?_ | refine c_exit ?_ | refine k_then_exit ?_ | refine k_blk_eq ?_ | (refine c_cond_p (by exact rfl) (fun h => ?_) (fun h => ?_) <;> try (exfalso; omega)) | fail
    refine s_lend [rowHP vo 3 1 out.length (nV out)] _ (by exact rfl) (by exact rfl) (by exact rfl) (fun w S h => nsort_row (sats_mem h.own (.head _)) (by omega)) ?_
    rintro _ _ ⟨rfl, rfl⟩
    repeat' first
      | refine k_then ?_ | refine c_seq ?_ | refine c_region ?_ | refine s_nil ?_ | refine s_move (by exact rfl) (by exact rfl) ?_ | refine s_assign (by exact rfl) (by exact rfl) ?_ | refine c_ret ?_ | fail
    refine retL [.tmp 6, .tmp 7] [vo, .int .i64 0] [0] rfl ⟨res_tmp rfl, res_tmp rfl, trivial⟩ (by exact rfl) ⟨vo, sortN out, rfl, ?_, sortN_asc hMf.ind.nd, hMf.perm (sortN_perm out)⟩
    rw [(sortN_perm out).length_eq]
    rfl
end Go.Proofs.YtpajjnkmaebhcabGreat
end
section
set_option linter.unusedVariables false
namespace Fil
theorem sum_add2 {α : Type} (f g : α → Nat) (l : List α) : (l.map fun x => f x + g x).sum = (l.map f).sum + (l.map g).sum := by
  induction l with
  | nil => rfl
  | cons y l ih => simp only [List.map_cons, List.sum_cons, ih]; omega
theorem sum_le2 {α : Type} {f : α → Nat} {M : Nat} : ∀ {l : List α}, (∀ x ∈ l, f x ≤ M) → (l.map f).sum ≤ l.length * M
  | [], _ => by simp
  | a :: l, h => by
    have h1 := sum_le2 fun x hx => h x (.tail _ hx)
    have h2 := h a (.head _)
    rw [List.map_cons, List.sum_cons, List.length_cons, Nat.succ_mul]
    omega
theorem sum_not (k a : Nat) : ∀ m, ((List.range m).map fun s => if a = s then 0 else 1).sum + (if a < m then 1 else 0) = m
  | 0 => by simp
  | m + 1 => by
    have h := sum_not k a m
    rw [List.range_succ, List.map_append, List.sum_append]
    simp only [List.map_cons, List.map_nil, List.sum_cons, List.sum_nil]
    by_cases h1 : a = m
    · subst h1; simp at h ⊢; omega
    · by_cases h2 : a < m
      · rw [if_pos h2] at h; rw [if_neg h1, if_pos (by omega)]; omega
      · rw [if_neg h2] at h; rw [if_neg h1, if_neg (by omega)]; omega
theorem sum_shifts {k : Nat} {o : Nat → Nat} : ∀ (Y : List Nat), ((List.range (k + 1)).map fun s => (Y.filter fun u => decide (o u % (k + 1) ≠ s)).length).sum = k * Y.length
  | [] => by
    have := sum_le2 (f := fun s : Nat => 0) (M := 0) (l := List.range (k + 1)) (by simp)
    simp only [List.filter_nil, List.length_nil] at this ⊢
    omega
  | u :: Y => by
    have h := sum_shifts (k := k) (o := o) Y
    have h2 := sum_not k (o u % (k + 1)) (k + 1)
    rw [if_pos (Nat.mod_lt _ (by omega))] at h2
    have h3 := sum_add2 (fun s => if o u % (k + 1) = s then 0 else 1) (fun s => (Y.filter fun u => decide (o u % (k + 1) ≠ s)).length) (List.range (k + 1))
    have h4 : ((List.range (k + 1)).map fun s => ((u :: Y).filter fun u => decide (o u % (k + 1) ≠ s)).length) = (List.range (k + 1)).map fun s => (if o u % (k + 1) = s then 0 else 1) + (Y.filter fun u => decide (o u % (k + 1) ≠ s)).length := by
      apply List.map_congr_left
      intro s _
      rw [List.filter_cons]
      by_cases h5 : o u % (k + 1) = s
      · simp [h5]
      · simp [h5]; omega
    rw [h4, h3, h, List.length_cons, Nat.mul_succ]
    omega
theorem baker_ratio {nb : Nat → List Nat} {N k M : Nat} {o : Nat → Nat} {Y : List Nat} (hY : Ind nb Y fun _ => false) (hYN : ∀ u ∈ Y, u < N)
    (h : ∀ s, s ≤ k → ∀ Z, Ind nb Z (fun _ => false) → (∀ u ∈ Z, u < N ∧ (keptL N k s o).getD u false = true) → Z.length ≤ M) : k * Y.length ≤ (k + 1) * M := by
  rw [← sum_shifts (o := o) Y]
  have h1 := sum_le2 (f := fun s => (Y.filter fun u => decide (o u % (k + 1) ≠ s)).length) (M := M) (l := List.range (k + 1)) fun s hs => by
    have hs : s < k + 1 := List.mem_range.1 hs
    refine h s (by omega) _ ⟨hY.nd.sublist List.filter_sublist, fun u hu v hv => hY.no u (List.mem_filter.1 hu).1 v (List.mem_filter.1 hv).1, fun _ _ _ _ => rfl⟩ fun u hu => ?_
    obtain ⟨u1, u2⟩ := List.mem_filter.1 hu
    refine ⟨hYN u u1, ?_⟩
    rw [keptL_get (hYN u u1)]
    exact u2
  rwa [List.length_range] at h1
end Fil
end
section
namespace Go.Sl
open Go Go.RowKit
section
variable {P : Program} {w0 : World} {S0 : FS} {n : Nat} {F : List (Nat × Value)} {L : List HP} {Q : Exit → Act → World → Prop}
theorem c_scope {c : Code} (h : Reach w0 S0 n F L (c.wp P (Exit.noGoto Q))) : Reach w0 S0 n F L ((Code.scope c).wp P Q) :=
  fun a w hf hs => wp_scope_straight (h a w hf hs)
theorem k_ng_ret (h : Reach w0 S0 n F L (Q .ret)) : Reach w0 S0 n F L (Exit.noGoto Q .ret) := fun a w hf hs => h a w hf hs
variable {Lk : List HP} {ops : Array Oper} {rest : List PI} {i d : Nat} {ty : TypeId} {ps : String} {af : Array Edge}
instance [T : PO Q] : PO (Exit.noGoto Q) := ⟨fun c a d v w h => T.ok c a d v w h⟩
end
end Go.Sl
end
section
set_option linter.unusedVariables false
namespace Fil
open Go.Sl
theorem rot_sys {n : Int} {es : List E} {ls : List (List Int)} (h : rotK n es ls = 0) : RightG n es ∧ ∃ R, ls = intL R ∧ RotL n.toNat (tn es) R := by
  unfold rotK at h
  split at h
  · simp at h
  · rename_i h0
    have hR := right_iff.1 (Classical.byContradiction h0)
    split at h
    · simp at h
    · rename_i h1
      split at h
      · rename_i h2
        rw [List.all_eq_true] at h2
        have hlo := hR.lo
        have hlen : ls.length = n.toNat := by omega
        have hp : ∀ v, v < n.toNat → ((nearS (tn es) v).map fun (k : Nat) => (k : Int)).Perm (ls.getD v []) := fun v hv => by
          have h3 := of_decide_eq_true (h2 v (List.mem_range.2 hv))
          rw [← h3]
          exact List.mergeSort_perm _ _
        have e : ∀ l ∈ ls, (l.map Int.toNat).map (fun (k : Nat) => (k : Int)) = l := fun l hl => by
          obtain ⟨v, hv, rfl⟩ := List.getElem_of_mem hl
          have h4 := hp v (by omega)
          rw [List.getD_eq_getElem?_getD, List.getElem?_eq_getElem hv, Option.getD_some] at h4
          rw [List.map_map]
          have h5 : ∀ x ∈ ls[v], (0 : Int) ≤ x := fun x hx => by
            obtain ⟨k, _, rfl⟩ := List.mem_map.1 (h4.mem_iff.2 hx)
            omega
          conv => rhs; rw [← List.map_id ls[v]]
          apply List.map_congr_left
          intro x hx
          have := h5 x hx
          simp only [Function.comp_apply, id_eq]
          omega
        refine ⟨hR, ls.map fun l => l.map Int.toNat, ?_, by simpa using hlen, fun v hv => ?_⟩
        · rw [intL, List.map_map]
          conv => lhs; rw [← List.map_id ls]
          apply List.map_congr_left
          intro l hl
          exact (e l hl).symm
        · have h4 := (hp v hv).symm.map Int.toNat
          rw [List.map_map] at h4
          have h5 : (nearS (tn es) v).map (Int.toNat ∘ fun (k : Nat) => (k : Int)) = nearS (tn es) v := by
            conv => rhs; rw [← List.map_id (nearS (tn es) v)]
            apply List.map_congr_left
            intro x _
            simp
          rw [h5] at h4
          have h6 : rf (ls.map fun l => l.map Int.toNat) v = (ls.getD v []).map Int.toNat := by
            rw [rf, List.getD_eq_getElem?_getD, List.getElem?_map, List.getD_eq_getElem?_getD]
            cases ls[v]? <;> rfl
          rw [h6]
          exact h4.trans (List.mergeSort_perm _ _)
      · simp at h
theorem rot_zero {n : Int} {es : List E} {R : List (List Nat)} (hR : RightG n es) (h : RotL n.toNat (tn es) R) : rotK n es (intL R) = 0 := by
  have hlo := hR.lo
  have hl : (intL R).length = n.toNat := by rw [intL, List.length_map]; exact h.len
  rw [rotK, if_neg (fun h => h (right_iff.2 hR)), if_neg (by omega), if_pos]
  rw [List.all_eq_true]
  intro v hv
  have hv := List.mem_range.1 hv
  have hg : (intL R).getD v [] = (rf R v).map fun (k : Nat) => (k : Int) := by
    rw [intL, List.getD_eq_getElem?_getD, List.getElem?_map, rf, List.getD_eq_getElem?_getD, List.getElem?_eq_getElem (by have := h.len; omega)]; rfl
  rw [rotB, hg, nat_sort]
  refine decide_eq_true (congrArg _ ?_)
  exact ((List.mergeSort_perm _ _).trans ((h.perm v hv).trans (List.mergeSort_perm _ _).symm)).eq_of_pairwise (fun a b _ _ h1 h2 => Nat.le_antisymm h1 h2)
    ((List.pairwise_mergeSort (fun a b c h1 h2 => by simp at *; omega) (fun a b => by simp; omega) (rf R v)).imp fun h => by simpa using h) (nearS_sort _ _)
theorem RotL.row {n : Int} {es : List E} {R : List (List Nat)} (hR : RightG n es) (h : RotL n.toNat (tn es) R) (v : Nat) : (rf R v).length ≤ n.toNat := by
  have h1 := sub_length (m := List.range n.toNat) ((h.sys hR).nd v) fun u hu => List.mem_range.2 (h.lt hR hu).1
  simpa using h1
theorem RotL.rows {n : Int} {es : List E} {R : List (List Nat)} (hR : RightG n es) (h : RotL n.toNat (tn es) R) : ∀ l ∈ intL R, l.length ≤ 1048576 := fun l hl => by
  have hhi := hR.hi
  obtain ⟨m, hm, rfl⟩ := List.mem_map.1 hl
  obtain ⟨v, hv, rfl⟩ := List.getElem_of_mem hm
  have h1 := h.row hR v
  rw [rf, List.getD_eq_getElem?_getD, List.getElem?_eq_getElem hv] at h1
  rw [List.length_map]
  simp only [Option.getD_some] at h1
  omega
/-- what was met -/
def metL (l : List (Nat × Nat)) : List ((Nat × Nat) × Bool) := l.map fun d => (d, true)
theorem metL_keys (l : List (Nat × Nat)) : (metL l).map Prod.fst = l := by
  rw [metL, List.map_map]
  conv => rhs; rw [← List.map_id l]
  rfl
theorem metL_snoc (l : List (Nat × Nat)) (d : Nat × Nat) : metL (l ++ [d]) = metL l ++ [(d, true)] := by simp [metL]
end Fil
namespace Go.Sl
open Go Go.RowKit Fil
theorem metL_in {l : List (Nat × Nat)} {d : Nat × Nat} (hn : l.Nodup) (h : d ∈ l) : (getK (metL l) d).getD false = true := by
  rw [getK_some (ks := metL l) (b := true) (by rw [metL_keys]; exact hn) (List.mem_map.2 ⟨d, h, rfl⟩)]; rfl
theorem metL_out {l : List (Nat × Nat)} {d : Nat × Nat} (h : d ∉ l) : (getK (metL l) d).getD false = false := by
  rw [getK_none (ks := metL l) (by rw [metL_keys]; exact h)]; rfl
theorem metL_put {l : List (Nat × Nat)} {d : Nat × Nat} (h : d ∉ l) : putK (metL l) d true = metL (l ++ [d]) := by
  rw [putK_new (ks := metL l) (by rw [metL_keys]; exact h), metL_snoc]
def rowD (h : Value) (l : List (Nat × Nat)) : HP := rowHP h 100 2 l.length (dsV l)
theorem dsV_append (a b : List (Nat × Nat)) : dsV (a ++ b) = dsV a ++ dsV b := by simp [dsV]
theorem dsV_at {l : List (Nat × Nat)} {i : Nat} {d : Nat × Nat} (h : l[i]? = some d) : ((dsV l).drop (i * 2)).take 2 = [.int .i64 (d.1 : Int), .int .i64 (d.2 : Int)] := by
  obtain ⟨h1, h2⟩ := dsV_get h
  have hl := (List.getElem?_eq_some_iff.1 h).1
  apply List.ext_getElem?
  intro j
  match j with
  | 0 => rw [List.getElem?_take_of_lt (by omega), List.getElem?_drop]; exact h1
  | 1 => rw [List.getElem?_take_of_lt (by omega), List.getElem?_drop]; exact h2
  | j + 2 => rw [List.getElem?_take_eq_none (by omega)]; rfl
end Go.Sl
end
section
set_option linter.unusedVariables false
namespace Go.Proofs.YtpajjnkmaebhcabGreat
open Go.RowKit Go.Sl Fil
set_option maxRecDepth 100000
set_option maxHeartbeats 8000000
set_option linter.unusedVariables false
set_option linter.unusedSimpArgs false
attribute [local irreducible] Code.wp wpList bodyPost wpQuiet Exit.then Exit.inBlock Post wpAnyH wpOp
theorem rotFaces_ok (n : Int) (v : Value) (es : List E) (vr : Value) (hr0 : List Value) (R : List (List Nat)) (w : World) (hs : Shp v es.length) (hr : RO w No v (esV es)) (hG : RightG n es) (hR : ROs w No vr hr0 R) (hRot : RotL n.toNat (tn es) R) :
    Calls Tryz.prog 88 #[.agg #[.int .i64 n, v], vr] w (Post w No fun r L' => ∃ (vo : Value) (ho : List Value), r = .tuple #[vo, .int .i64 0] ∧ ho.length = (facesR n.toNat (tn es) R).length ∧ L' = [rowHP vo 101 1 (facesR n.toNat (tn es) R).length ho, starHP (kids rowD ho (facesR n.toNat (tn es) R))]) := by
  have hsr := hR.shp
  have hrr := hR.ro
  have hlo := hG.lo
  have hhi := hG.hi
  have hmany := hG.many
  have hRl := hRot.len
  refine enter0 (vs := [_, _]) Tryz.func88 rfl Tryz.ntmps88 rfl ?_
  repeat' first
    | refine k_then ?_ | refine c_seq ?_ | refine c_region ?_ | refine s_nil ?_ | refine s_assign (by exact rfl) (by exact rfl) ?_ | refine o_box (by exact rfl) (by exact rfl) (fun b => ?_)
  refine c_scope ?_
  repeat' first
    | refine c_seq ?_ | refine c_region ?_ | refine s_move (by exact rfl) (by exact rfl) ?_ | refine s_ldk_box (by exact rfl) (by exact rfl) (by exact .head _) (by exact rfl) (by exact rfl) ?_
  refine s_call (by exact rfl) (by exact rfl) (fun w h => rotRight_ok n v es vr hr0 (intL R) w hs (ro_old h hr) (by omega) (rosI_old h hR.int) (hRot.rows hG)) ?_
  rw [rot_zero hG hRot]
  repeat' first
    | refine k_then ?_ | refine c_seq ?_ | refine c_region ?_ | refine s_nil ?_ | refine s_move (by exact rfl) (by exact rfl) ?_ | refine s_assign (by exact rfl) (by exact rfl) ?_ | refine s_neq (by exact rfl) (by exact rfl) (by exact rfl) ?_ | refine c_skip ?_ | (refine c_cond_p (by exact rfl) (fun h => ?_) (fun h => ?_) <;> try (exfalso; omega))
  refine o_call (by exact rfl) (by exact rfl) (fun w h => behind_ok vr hr0 R w (ros_old h hR) (fun v => (hRot.sys hG).nd v) (fun v u hu => by have := (hRot.lt hG hu).1; omega) (by omega) (fun v => by have := hRot.row hG v; omega)) ?_
  rintro vm _ rfl
  repeat' first
    | refine k_then ?_ | refine c_seq ?_ | refine c_region ?_ | refine s_nil ?_ | refine s_move (by exact rfl) (by exact rfl) ?_ | refine s_assign (by exact rfl) (by exact rfl) ?_ | refine s_fa (by exact rfl) (by exact rfl) ?_ | refine s_ld_box (by exact rfl) (by exact rfl) (by exact .tail _ (.head _)) (by exact rfl) ?_ | refine s_len (by exact rfl) (by exact rfl) (by assumption) ?_ | refine c_block ?_
  refine c_nil 100 2 ?_
  refine c_loop (fun x : Nat × Value => x.1 ≤ es.length) (fun x => [(2, .pointer (some ⟨b, 0, none⟩)), (4, .slice none 0 0), (5, .int .i64 0), (7, vm), (8, x.2), (25, v), (26, .int .i64 (es.length : Int)), (27, .int .i64 (x.1 : Int))])
    (fun x => [rowHP x.2 100 2 (dartsE (tn (es.take x.1))).length (dsV (dartsE (tn (es.take x.1)))), mapHP ekD ekD okD vm (behL R R.length), boxHP b 24 [.int .i64 n, v]]) (fun x => es.length - x.1) (0, .slice none 0 0) [0, 0, 0] (Nat.zero_le _) (by exact rfl) ⟨rfl, rfl, rfl, rfl, rfl, rfl, rfl, rfl, trivial⟩ ?_
  rintro ⟨k, va⟩ hk
  dsimp only at hk ⊢
  have hml : (dartsE (tn (es.take k))).length = 2 * k := by rw [dartsE_length, tn_len, List.length_take]; omega
  by_cases hlt : k < es.length
  · obtain ⟨e, he⟩ : ∃ e, es[k]? = some e := ⟨_, List.getElem?_eq_getElem hlt⟩
    have hE := esV_at he
    have htk : dartsE (tn (es.take (k + 1))) = dartsE (tn (es.take k)) ++ [(e.1.toNat, e.2.1.toNat), (e.2.1.toNat, e.1.toNat)] := by
      rw [List.take_add_one, he, tn, List.map_append, ← tn]
      exact dartsE_snoc _ (e.1.toNat, e.2.1.toNat)
    obtain ⟨o1, o2, o3, o4, _⟩ := hG.ok e (List.mem_of_getElem? he)
    have u1 : e.1 = (e.1.toNat : Int) := by omega
    have u2 : e.2.1 = (e.2.1.toNat : Int) := by omega
    repeat' first
      | refine k_then ?_ | refine c_seq ?_ | refine c_region ?_ | refine s_nil ?_ | refine s_lss (by exact rfl) (by exact rfl) (by exact rfl) ?_ | refine s_idx (by exact rfl) (by exact rfl) (by exact rfl) (by assumption) (by first | assumption | omega) ?_ | refine s_ldk_ro (by exact rfl) (by exact rfl) (by assumption) (by decide) (by assumption) (by exact rfl) ?_ | refine o_alloc (by exact rfl) (fun b => ?_) | refine c_block ?_ | refine c_skip ?_ | (refine c_cond_p (by exact rfl) (fun h => ?_) (fun h => ?_) <;> try (exfalso; omega))
    refine o_stk_box (i := 0) (us := eV e) (by exact rfl) (by exact rfl) (by exact rfl) (by exact rfl) (by exact rfl) (by simp [eV, Value.oneCell']) (by simp [Value.cells]) ?_
    repeat' first
      | refine k_then ?_ | refine c_region ?_ | refine s_nil ?_ | refine s_move (by exact rfl) (by exact rfl) ?_ | refine s_fa (by exact rfl) (by exact rfl) ?_ | refine s_ld_box (by exact rfl) (by exact rfl) (by exact .head _) (by exact rfl) ?_
    refine o_build (cs := [.int .i64 e.1, .int .i64 e.2.1]) [(0, .int .i64 e.1, [.int .i64 e.1]), (1, .int .i64 e.2.1, [.int .i64 e.2.1])] (by exact rfl) (by exact rfl) (by simp [Value.cells]) (by exact rfl) ?_
    repeat' first
      | refine s_fa (by exact rfl) (by exact rfl) ?_ | refine s_ld_box (by exact rfl) (by exact rfl) (by exact .head _) (by exact rfl) ?_
    refine o_build (cs := [.int .i64 e.2.1, .int .i64 e.1]) [(0, .int .i64 e.2.1, [.int .i64 e.2.1]), (1, .int .i64 e.1, [.int .i64 e.1])] (by exact rfl) (by exact rfl) (by simp [Value.cells]) (by exact rfl) ?_
    refine o_mk [.agg #[.int .i64 e.1, .int .i64 e.2.1], .agg #[.int .i64 e.2.1, .int .i64 e.1]] (by exact rfl) (by exact rfl) rfl ?_ ?_ (by simp) fun vi hvi => ?_
    · simp [Value.cells]
    · simp
    have hnew : ([Value.agg #[.int .i64 e.1, .int .i64 e.2.1], .agg #[.int .i64 e.2.1, .int .i64 e.1]].flatMap fun u => u.cells.toList) = dsV [(e.1.toNat, e.2.1.toNat), (e.2.1.toNat, e.1.toNat)] := by
      rw [show dsV [(e.1.toNat, e.2.1.toNat), (e.2.1.toNat, e.1.toNat)] = [.int .i64 (e.1.toNat : Int), .int .i64 (e.2.1.toNat : Int), .int .i64 (e.2.1.toNat : Int), .int .i64 (e.1.toNat : Int)] from rfl, ← u1, ← u2]
      rfl
    rw [hnew]
    skip
    refine o_append_row (i := 2) (by exact rfl) (by exact rfl) (by exact rfl) (by exact rfl) (by exact .head _) (by exact rfl) (by intro u hu; exact dsV_one _ u hu) (by rw [hml]; show (2 * k + 2) * 16 ≤ _; omega) fun vy hvy => ?_
    repeat' first
      | refine k_then ?_ | refine c_region ?_ | refine s_nil ?_ | refine s_move (by exact rfl) (by exact rfl) ?_ | refine s_assign (by exact rfl) (by exact rfl) ?_ | refine s_add (by exact rfl) (by exact rfl) (by exact rfl) (by omega) ?_ | refine k_blk ?_
    refine c_round (k + 1, vy) [2, 2, 2] ?_ (by exact ⟨rfl, rfl, rfl, rfl, rfl, rfl, rfl, rfl, trivial⟩) (by dsimp only; omega) (by dsimp only; omega)
    dsimp only
    rw [htk, dsV_append, List.length_append]
    rfl
  · repeat' first
      | refine k_then ?_ | refine c_seq ?_ | refine c_region ?_ | refine s_nil ?_ | refine s_move (by exact rfl) (by exact rfl) ?_ | refine s_lss (by exact rfl) (by exact rfl) (by exact rfl) ?_ | refine c_exit ?_ | refine k_then_exit ?_ | refine k_blk_eq ?_ | (refine c_cond_p (by exact rfl) (fun h => ?_) (fun h => ?_) <;> try (exfalso; omega))
    obtain rfl : k = es.length := by omega
    rw [List.take_length] at *
    refine s_lend [rowHP va 100 2 (dartsE (tn es)).length (dsV (dartsE (tn es)))] _ (by exact rfl) (by exact rfl) (by exact rfl) (fun w S h => dartSort_row (sats_mem h.own (.head _)) (by omega)) ?_
    rintro _ _ ⟨rfl, rfl⟩
    have hml2 : (dartsE (tn es)).length = 2 * es.length := by rw [dartsE_length, tn_len]
    rw [darts_sorted hG, hml2, ← dartsAll_length hG]
    have hnd := dartsAll_nodup hG
    have hi := all_inj hG hRot
    have hm := all_mem hG hRot
    have hdl := dartsAll_length hG
    have hin : ∀ d ∈ dartsAll n.toNat (tn es), d.1 < n.toNat ∧ d.2 < n.toNat := fun d hd => dart_lt hG hd
    have hlk : ∀ d ∈ dartsAll n.toNat (tn es), (getK (behL R R.length) d).getD (0, 0) = nxt (rf R) d := fun d hd => by
      have h1 := (dart_in hG hRot).1 hd
      have h2 := (hRot.sys hG).sym h1
      rw [getK_some (behL_nodup (fun v => (hRot.sys hG).nd v) _) (beh_look (fun v => (hRot.sys hG).nd v) (by have := (hin d hd).2; omega) h2)]
      rfl
    have hfR : facesR n.toNat (tn es) R = (dartsAll n.toNat (tn es)).foldl (facesStep (nxt (rf R)) (2 * es.length + 1)) [] := by rw [facesR, facesL, tn_len]
    rw [hfR]
    generalize dartsAll n.toNat (tn es) = ds at *
    generalize nxt (rf R) = G at *
    generalize behL R R.length = Bh at *
    repeat' first
      | refine k_then ?_ | refine c_seq ?_ | refine c_region ?_ | refine s_nil ?_
    refine o_makeMap (by exact rfl) fun bm => ?_
    repeat' first
      | refine k_then ?_ | refine c_seq ?_ | refine s_nil ?_ | refine s_assign (by exact rfl) (by exact rfl) ?_
    refine c_label ?_
    refine know_row (v := va) (by exact .tail _ (.head _)) fun hva _ => ?_
    repeat' first
      | refine k_then ?_ | refine c_seq ?_ | refine c_region ?_ | refine s_nil ?_ | refine s_move (by exact rfl) (by exact rfl) ?_ | refine s_len (by exact rfl) (by exact rfl) (by assumption) ?_ | refine c_block ?_
    refine c_nil 101 1 ?_
    refine c_star0 ?_
    refine c_loop (fun x : Nat × Value × List Value => x.1 ≤ ds.length ∧ Fs G ds ((ds.take x.1).foldl (facesStep G (2 * es.length + 1)) []) ∧ x.2.2.length = ((ds.take x.1).foldl (facesStep G (2 * es.length + 1)) []).length ∧ ((ds.take x.1).foldl (facesStep G (2 * es.length + 1)) []).length ≤ x.1)
      (fun x => [(4, x.2.1), (5, .int .i64 0), (7, vm), (11, .map (some bm)), (48, va), (49, .int .i64 (ds.length : Int)), (50, .int .i64 (x.1 : Int))])
      (fun x => [mapHP ekD Value.bool okD (.map (some bm)) (metL ((ds.take x.1).foldl (facesStep G (2 * es.length + 1)) []).flatten), rowHP va 100 2 ds.length (dsV ds), mapHP ekD ekD okD vm Bh, rowHP x.2.1 101 1 ((ds.take x.1).foldl (facesStep G (2 * es.length + 1)) []).length x.2.2, starHP (kids rowD x.2.2 ((ds.take x.1).foldl (facesStep G (2 * es.length + 1)) []))])
      (fun x => ds.length - x.1) (0, .slice none 0 0, []) [2, 2, 2, 1, 0] ⟨Nat.zero_le _, ⟨by simp, by simp, by simp⟩, rfl, by simp⟩ (by exact rfl) ⟨rfl, rfl, rfl, rfl, rfl, rfl, rfl, trivial⟩ ?_
    rintro ⟨k, vo, ho⟩ ⟨hk, hFs, hol, hok⟩
    dsimp only at hk hFs hol hok ⊢
    by_cases hlt : k < ds.length
    · obtain ⟨d0, hd0⟩ : ∃ d, ds[k]? = some d := ⟨_, List.getElem?_eq_getElem hlt⟩
      have hd0m := List.mem_of_getElem? hd0
      have hE := dsV_at hd0
      have htk : (ds.take (k + 1)).foldl (facesStep G (2 * es.length + 1)) [] = facesStep G (2 * es.length + 1) ((ds.take k).foldl (facesStep G (2 * es.length + 1)) []) d0 := by
        rw [List.take_add_one, hd0, List.foldl_append]; rfl
      have hFs1 := (hFs.step hi hm (n := 2 * es.length + 1) (by omega) hd0m).1
      generalize (ds.take k).foldl (facesStep G (2 * es.length + 1)) [] = out at *
      repeat' first
        | refine k_then ?_ | refine c_seq ?_ | refine c_region ?_ | refine s_nil ?_ | refine s_lss (by exact rfl) (by exact rfl) (by exact rfl) ?_ | refine s_idx (by exact rfl) (by exact rfl) (by exact rfl) (by assumption) (by first | assumption | omega) ?_ | refine s_ldk_row (by exact rfl) (by exact rfl) (by exact .tail _ (.head _)) (by decide) (by assumption) (by exact rfl) ?_ | refine o_alloc (by exact rfl) (fun b => ?_) | refine c_block ?_ | refine c_skip ?_ | (refine c_cond_p (by exact rfl) (fun h => ?_) (fun h => ?_) <;> try (exfalso; omega))
      refine o_stk_box (i := 0) (us := [.int .i64 (d0.1 : Int), .int .i64 (d0.2 : Int)]) (by exact rfl) (by exact rfl) (by exact rfl) (by exact rfl) (by exact rfl) (by simp [Value.oneCell']) (by simp [Value.cells]) ?_
      repeat' first
        | refine k_then ?_ | refine c_seq ?_ | refine c_region ?_ | refine s_nil ?_ | refine s_assign (by exact rfl) (by exact rfl) ?_ | refine s_ldk_box (by exact rfl) (by exact rfl) (by exact .head _) (by exact rfl) (by exact rfl) ?_ | refine o_alloc (by exact rfl) (fun b => ?_)
      rename_i b13 _ b15
      refine o_stk_box (i := 0) (us := [.int .i64 (d0.1 : Int), .int .i64 (d0.2 : Int)]) (by exact rfl) (by exact rfl) (by exact rfl) (by exact rfl) (by exact rfl) (by simp [Value.oneCell']) (by simp [Value.cells]) ?_
      repeat' first
        | refine k_then ?_ | refine s_nil ?_ | refine c_block ?_
      refine c_nil 100 2 ?_
      refine c_loop (fun x : List (Nat × Nat) × (Nat × Nat) × Value × Nat => (d0 ∉ out.flatten → InF G ds out d0 x.1 x.2.1) ∧ (d0 ∈ out.flatten → x.1 = [] ∧ x.2.1 = d0) ∧ x.2.1 ∈ ds ∧ (out.flatten ++ x.1).Nodup ∧ x.1.length ≤ ds.length)
        (fun x => [(4, vo), (5, .int .i64 0), (7, vm), (11, .map (some bm)), (14, x.2.2.1), (15, .pointer (some ⟨x.2.2.2, 0, none⟩)), (48, va), (49, .int .i64 (ds.length : Int)), (50, .int .i64 (k : Int))])
        (fun x => [rowHP x.2.2.1 100 2 x.1.length (dsV x.1), mapHP ekD Value.bool okD (.map (some bm)) (metL (out.flatten ++ x.1)), boxHP x.2.2.2 100 [.int .i64 (x.2.1.1 : Int), .int .i64 (x.2.1.2 : Int)], mapHP ekD ekD okD vm Bh, rowHP va 100 2 ds.length (dsV ds), rowHP vo 101 1 out.length ho, starHP (kids rowD ho out)])
        (fun x => ds.length - x.1.length) ([], d0, .slice none 0 0, b) [0, 2, 0, 2, 1, 1, 1] ⟨fun h => hFs.start hd0m h, fun _ => ⟨rfl, rfl⟩, hd0m, by simpa using hFs.nd, Nat.zero_le _⟩ (by simp only [List.append_nil]; exact rfl) ⟨rfl, rfl, rfl, rfl, rfl, rfl, rfl, rfl, rfl, trivial⟩ ?_
      rintro ⟨f, x, vf, bx⟩ ⟨hI, hJ, hxm, hfn, hfl⟩
      dsimp only at hI hJ hxm hfn hfl ⊢
      refine know_row (v := vf) (.head _) fun hvf _ => ?_
      have hxin := hin x hxm
      have hgx := hin (G x) (hm x hxm)
      have hlkx := hlk x hxm
      by_cases hmet : x ∈ out.flatten ++ f
      · have hl1 := metL_in hfn hmet
        by_cases hf0 : f = []
        · have hd0f : d0 ∈ out.flatten := Classical.byContradiction fun hc => by
            rw [hf0, List.append_nil] at hmet
            exact (hI hc).far hmet
          have hfz : f.length = 0 := by rw [hf0]; rfl
          repeat' first
            | refine k_then ?_ | refine c_seq ?_ | refine c_region ?_ | refine s_nil ?_ | refine s_move (by exact rfl) (by exact rfl) ?_ | refine s_assign (by exact rfl) (by exact rfl) ?_ | refine s_add (by exact rfl) (by exact rfl) (by exact rfl) (by omega) ?_ | refine s_look (by exact rfl) (by exact rfl) (by exact rfl) (by exact .tail _ (.head _)) (by exact rfl) (by assumption) (by first | exact ⟨by omega, by omega⟩ | exact ⟨⟨by omega, by omega⟩, by omega, by omega⟩) ?_ | refine s_pick_t (by exact rfl) (by exact rfl) (by exact rfl) ?_ | refine s_ldk_box (by exact rfl) (by exact rfl) (by exact .tail _ (.tail _ (.head _))) (by exact rfl) (by exact rfl) ?_ | refine c_block ?_ | refine c_skip ?_ | refine c_exit ?_ | refine k_then_exit ?_ | refine k_blk_eq ?_ | refine k_blk_ne (by exact rfl) ?_ | (refine c_cond_p (by exact rfl) (fun h => ?_) (fun h => ?_) <;> try (exfalso; omega)) | refine c_cond_t (by exact rfl) ?_ | refine w_move (by exact rfl) (by exact rfl) (by exact rfl) (by exact rfl) ?_ | refine w_gtr (by exact rfl) (by exact rfl) (by exact rfl) (by exact rfl) (by exact rfl) ?_ | refine w_len (by exact rfl) (by exact rfl) (by exact rfl) (by exact rfl) (by assumption) ?_
          have hst : facesStep G (2 * es.length + 1) out d0 = out := if_pos hd0f
          rw [hst] at htk
          subst hf0
          refine c_round (k + 1, vo, ho) [1, 3, 2, 2, 2] (by dsimp only; rw [htk, List.append_nil]; rfl) ⟨rfl, rfl, rfl, rfl, rfl, rfl, rfl, trivial⟩ ⟨by dsimp only; omega, by dsimp only; rw [htk]; exact hFs, by dsimp only; rw [htk]; exact hol, by dsimp only; rw [htk]; omega⟩ (by dsimp only; omega)
        · have hd0f : d0 ∉ out.flatten := fun hc => hf0 (hJ hc).1
          have hInF := hI hd0f
          have hxf : x ∈ f := (List.mem_append.1 hmet).resolve_left hInF.far
          have hxd := hInF.met hi hxf
          have hfz : 0 < f.length := List.length_pos_iff.2 hf0
          repeat' first
            | refine k_then ?_ | refine c_seq ?_ | refine c_region ?_ | refine s_nil ?_ | refine s_move (by exact rfl) (by exact rfl) ?_ | refine s_assign (by exact rfl) (by exact rfl) ?_ | refine s_look (by exact rfl) (by exact rfl) (by exact rfl) (by exact .tail _ (.head _)) (by exact rfl) (by assumption) (by first | exact ⟨by omega, by omega⟩ | exact ⟨⟨by omega, by omega⟩, by omega, by omega⟩) ?_ | refine s_pick_t (by exact rfl) (by exact rfl) (by exact rfl) ?_ | refine s_ldk_box (by exact rfl) (by exact rfl) (by exact .tail _ (.tail _ (.head _))) (by exact rfl) (by exact rfl) ?_ | refine c_block ?_ | refine c_exit ?_ | refine k_then_exit ?_ | refine k_blk_eq ?_ | (refine c_cond_p (by exact rfl) (fun h => ?_) (fun h => ?_) <;> try (exfalso; omega)) | refine w_move (by exact rfl) (by exact rfl) (by exact rfl) (by exact rfl) ?_ | refine w_gtr (by exact rfl) (by exact rfl) (by exact rfl) (by exact rfl) (by exact rfl) ?_ | refine w_len (by exact rfl) (by exact rfl) (by exact rfl) (by exact rfl) (by assumption) ?_
          rw [hxd] at hInF
          have hst : facesStep G (2 * es.length + 1) out d0 = out ++ [f] := by rw [facesStep, if_neg hd0f, hInF.tr hf0 (by omega)]
          rw [hst] at htk hFs1
          refine o_mk [vf] (by exact rfl) (by exact rfl) rfl ?_ ?_ (by simp) fun vt hvt => ?_
          · intro u hu
            obtain rfl : u = vf := by simpa using hu
            rw [← Array.length_toList, one_cells hvf.one]; rfl
          · simp
          rw [show ([vf].flatMap fun u => u.cells.toList) = [vf] from by simp [one_cells hvf.one]]
          skip
          refine o_append_row (i := 6) (by exact rfl) (by exact rfl) (by exact rfl) (by exact rfl) (by exact .head _) (by exact rfl) (by simp [hvf.one]) ?_ fun vo2 hvo2 => ?_
          · show (out.length + 1) * 24 ≤ _
            omega
          repeat' first
            | refine k_then ?_ | refine c_seq ?_ | refine c_region ?_ | refine s_nil ?_ | refine s_move (by exact rfl) (by exact rfl) ?_ | refine s_assign (by exact rfl) (by exact rfl) ?_ | refine s_add (by exact rfl) (by exact rfl) (by exact rfl) (by omega) ?_ | refine c_exit ?_ | refine k_then_exit ?_ | refine k_blk ?_ | refine k_blk_eq ?_ | refine k_blk_ne (by exact rfl) ?_
          refine c_pick [1, 1, 3, 2, 2, 2] (by exact rfl) ?_
          refine c_pushk 4 (by exact rfl) ?_
          refine c_round (k + 1, vo2, ho ++ [vf]) [0, 0, 0, 0, 0] ?_ ⟨rfl, rfl, rfl, rfl, rfl, rfl, rfl, trivial⟩ ⟨by dsimp only; omega, by dsimp only; rw [htk]; exact hFs1, by dsimp only; rw [htk, List.length_append, List.length_append, hol]; rfl, by dsimp only; rw [htk, List.length_append]; simp only [List.length_cons, List.length_nil]; omega⟩ (by dsimp only; omega)
          dsimp only
          rw [htk, kids_append hol, List.length_append, List.flatten_append, show [f].flatten = f by simp]
          rfl
      · have hl1 := metL_out hmet
        repeat' first
          | refine k_then ?_ | refine c_seq ?_ | refine c_region ?_ | refine s_nil ?_ | refine s_move (by exact rfl) (by exact rfl) ?_ | refine s_assign (by exact rfl) (by exact rfl) ?_ | refine s_look (by exact rfl) (by exact rfl) (by exact rfl) (by exact .tail _ (.head _)) (by exact rfl) (by assumption) (by first | exact ⟨by omega, by omega⟩ | exact ⟨⟨by omega, by omega⟩, by omega, by omega⟩) ?_ | refine s_pick_f (by exact rfl) (by exact rfl) (by exact rfl) ?_ | refine s_ldk_box (by exact rfl) (by exact rfl) (by exact .tail _ (.tail _ (.head _))) (by exact rfl) (by exact rfl) ?_ | refine c_block ?_ | refine c_skip ?_ | refine c_exit ?_ | refine k_then_exit ?_ | refine k_blk_eq ?_ | refine k_blk_ne (by exact rfl) ?_ | refine c_cond_f (by exact rfl) ?_ | refine g_skip (by exact rfl) (by exact rfl) (by exact rfl) (by exact rfl) ?_
        have hd0f : d0 ∉ out.flatten := fun hc => hmet (List.mem_append.2 (.inl ((hJ hc).2 ▸ hc)))
        have hInF := hI hd0f
        have hne : f = [] ∨ x ≠ d0 := by
          cases f with
          | nil => exact .inl rfl
          | cons a f =>
            refine .inr fun e => hmet (List.mem_append.2 (.inr ?_))
            have h1 : d0 = a := hInF.st.1
            rw [e, h1]; exact .head _
        obtain ⟨hxf, hInF2⟩ := hInF.more hi hm hFs.cy hFs.sub hne
        have hroom := hInF.room hxf
        refine o_mapup (ek := ekD) (ev := Value.bool) (ok := okD) (i := 1) x true (by exact rfl) (by exact rfl) (by exact rfl) (by exact rfl) (by exact rfl) rfl ⟨by omega, by omega⟩ ?_
        rw [metL_put hmet, List.append_assoc]
        repeat' first
          | refine k_then ?_ | refine c_region ?_ | refine s_nil ?_ | refine s_move (by exact rfl) (by exact rfl) ?_ | refine s_ldk_box (by exact rfl) (by exact rfl) (by exact .tail _ (.tail _ (.head _))) (by exact rfl) (by exact rfl) ?_
        refine o_mk [.agg #[.int .i64 (x.1 : Int), .int .i64 (x.2 : Int)]] (by exact rfl) (by exact rfl) rfl ?_ ?_ (by simp) fun vt hvt => ?_
        · simp [Value.cells]
        · simp
        rw [show ([Value.agg #[.int .i64 (x.1 : Int), .int .i64 (x.2 : Int)]].flatMap fun u => u.cells.toList) = dsV [x] from rfl]
        skip
        refine o_append_row (i := 1) (by exact rfl) (by exact rfl) (by exact rfl) (by exact rfl) (by exact .head _) (by exact rfl) (by intro u hu; exact dsV_one _ u hu) ?_ fun vf2 hvf2 => ?_
        · show (f.length + 1) * 16 ≤ _
          omega
        repeat' first
          | refine k_then ?_ | refine c_seq ?_ | refine c_region ?_ | refine s_nil ?_ | refine s_assign (by exact rfl) (by exact rfl) ?_ | refine s_ldk_box (by exact rfl) (by exact rfl) (by exact .tail _ (.tail _ (.tail _ (.head _)))) (by exact rfl) (by exact rfl) ?_ | refine o_alloc (by exact rfl) (fun b => ?_) | refine k_blk ?_
        refine o_stk_box (i := 0) (us := [.int .i64 (x.1 : Int), .int .i64 (x.2 : Int)]) (by exact rfl) (by exact rfl) (by exact rfl) (by exact rfl) (by exact rfl) (by simp [Value.oneCell']) (by simp [Value.cells]) ?_
        repeat' first
          | refine k_then ?_ | refine c_region ?_ | refine s_nil ?_ | refine s_move (by exact rfl) (by exact rfl) ?_ | refine s_look (by exact rfl) (by exact rfl) (by exact rfl) (by exact .tail _ (.tail _ (.tail _ (.tail _ (.tail _ (.head _)))))) (by exact rfl) (by assumption) (by first | exact ⟨by omega, by omega⟩ | exact ⟨⟨by omega, by omega⟩, by omega, by omega⟩) ?_ | refine s_ldk_box (by exact rfl) (by exact rfl) (by exact .head _) (by exact rfl) (by exact rfl) ?_
        refine o_stk_box (i := 0) (us := [.int .i64 ((G x).1 : Int), .int .i64 ((G x).2 : Int)]) (by exact rfl) (by exact rfl) (by exact rfl) (by exact rfl) (by exact rfl) (by simp [Value.oneCell']) (by simp [Value.cells, putL]) ?_
        repeat' first
          | refine k_then ?_ | refine s_nil ?_
        refine c_round (f ++ [x], G x, vf2, b) [2, 2, 0, 2, 2, 2, 2] ?_ ⟨rfl, rfl, rfl, rfl, rfl, rfl, rfl, rfl, rfl, trivial⟩ ⟨fun _ => hInF2, fun hc => absurd hc hd0f, hm x hxm, ?_, by dsimp only; rw [List.length_append]; exact hroom⟩ (by dsimp only; rw [List.length_append]; simp only [List.length_cons, List.length_nil]; omega)
        · dsimp only
          rw [dsV_append, List.length_append]
          rfl
        · dsimp only
          rw [← List.append_assoc, List.nodup_append]
          refine ⟨hfn, by simp, fun a ha b hb e => ?_⟩
          obtain rfl : b = x := by simpa using hb
          exact hmet (e ▸ ha)
    · repeat' first
        | refine k_then ?_ | refine c_seq ?_ | refine c_region ?_ | refine s_nil ?_ | refine s_move (by exact rfl) (by exact rfl) ?_ | refine s_assign (by exact rfl) (by exact rfl) ?_ | refine s_lss (by exact rfl) (by exact rfl) (by exact rfl) ?_ | refine c_exit ?_ | refine c_ret ?_ | refine k_then_exit ?_ | refine k_blk_eq ?_ | (refine c_cond_p (by exact rfl) (fun h => ?_) (fun h => ?_) <;> try (exfalso; omega))
      obtain rfl : k = ds.length := by omega
      rw [List.take_length] at *
      refine k_ng_ret ?_
      refine retL [.tmp 4, .tmp 5] [vo, .int .i64 0] [3, 3] rfl ⟨res_tmp rfl, res_tmp rfl, trivial⟩ (by exact rfl) ⟨vo, ho, rfl, hol, rfl⟩
/-- what is no right system has no faces -/
theorem rotFaces_no (n : Int) (v : Value) (es : List E) (vr : Value) (hr0 : List Value) (ls : List (List Int)) (w : World) (hs : Shp v es.length) (hr : RO w No v (esV es)) (hm : es.length < 4611686018427387904) (hR : ROsI w No vr hr0 ls) (hlen : ∀ l ∈ ls, l.length ≤ 1048576) (hk : rotK n es ls ≠ 0) :
    Calls Tryz.prog 88 #[.agg #[.int .i64 n, v], vr] w (Post w No (Just (.tuple #[.slice none 0 0, .int .i64 (rotK n es ls)]))) := by
  have hsr := hR.shp
  have hrr := hR.ro
  refine enter0 (vs := [_, _]) Tryz.func88 rfl Tryz.ntmps88 rfl ?_
  repeat' first
    | refine k_then ?_ | refine c_seq ?_ | refine c_region ?_ | refine s_nil ?_ | refine s_assign (by exact rfl) (by exact rfl) ?_ | refine o_box (by exact rfl) (by exact rfl) (fun b => ?_)
  refine c_scope ?_
  repeat' first
    | refine c_seq ?_ | refine c_region ?_ | refine s_move (by exact rfl) (by exact rfl) ?_ | refine s_ldk_box (by exact rfl) (by exact rfl) (by exact .head _) (by exact rfl) (by exact rfl) ?_
  refine s_call (by exact rfl) (by exact rfl) (fun w h => rotRight_ok n v es vr hr0 ls w hs (ro_old h hr) hm (rosI_old h hR) hlen) ?_
  repeat' first
    | refine k_then ?_ | refine c_seq ?_ | refine c_region ?_ | refine s_nil ?_ | refine s_move (by exact rfl) (by exact rfl) ?_ | refine s_assign (by exact rfl) (by exact rfl) ?_ | refine s_neq (by exact rfl) (by exact rfl) (by exact rfl) ?_ | refine c_ret ?_ | refine k_then_ret ?_ | (refine c_cond_p (by exact rfl) (fun h => ?_) (fun h => ?_) <;> try (exfalso; omega))
  refine k_ng_ret ?_
  refine retL [.tmp 4, .tmp 5] [.slice none 0 0, .int .i64 (rotK n es ls)] [] rfl ⟨res_tmp rfl, res_tmp rfl, trivial⟩ (by exact rfl) ⟨rfl, rfl⟩
end Go.Proofs.YtpajjnkmaebhcabGreat
end
section
set_option linter.unusedVariables false
namespace Fil
theorem map_set {α : Type} {cs : List α} {f g : α → Int} {i : Nat} {c : α} (hc : cs[i]? = some c) (h : ∀ (j : Nat) x, cs[j]? = some x → j ≠ i → g x = f x) : (cs.map f).set i (g c) = cs.map g := by
  have hi := (List.getElem?_eq_some_iff.1 hc).1
  apply List.ext_getElem?
  intro j
  rw [List.getElem?_set]
  by_cases e : i = j
  · subst e
    rw [if_pos rfl, if_pos (by simpa using hi), List.getElem?_map, hc]; rfl
  · rw [if_neg e, List.getElem?_map, List.getElem?_map]
    cases hx : cs[j]? with
    | none => rfl
    | some x => simp only [Option.map_some]; rw [h j x hx fun e' => e e'.symm]
theorem comp_one {N : Nat} {A : Nat → List Nat} {o lab : Nat → Nat} (hL : Lev N A o lab) {v : Nat} (hv : v < N) : ∃ a c, (compsS N lab)[a]? = some c ∧ v ∈ c ∧ ∀ (b : Nat) x, (compsS N lab)[b]? = some x → (v ∈ x ↔ b = a) := by
  have h1 := hL.le v hv
  have h2 := hL.idem v hv
  have hc : (List.range N).filter (fun u => lab u == lab v) ∈ compsS N lab := by
    simp only [compsS, compsI, List.mem_map, List.mem_filter, List.mem_range]
    exact ⟨lab v, ⟨by omega, by simpa using h2⟩, rfl⟩
  obtain ⟨a, ha⟩ := List.getElem?_of_mem hc
  refine ⟨a, _, ha, List.mem_filter.2 ⟨List.mem_range.2 hv, by simp⟩, fun b x hb => ⟨fun hx => ?_, fun e => ?_⟩⟩
  · rw [compsS, compsI, List.getElem?_map, Option.map_eq_some_iff] at ha hb
    obtain ⟨r, hr, hr2⟩ := ha
    obtain ⟨s, hs, hs2⟩ := hb
    subst hs2
    have e1 : lab v = s := by have := (List.mem_filter.1 hx).2; simpa using this
    have hvr : v ∈ (List.range N).filter (fun u => lab u == r) := by rw [hr2]; exact List.mem_filter.2 ⟨List.mem_range.2 hv, by simp⟩
    have e2 : lab v = r := by have := (List.mem_filter.1 hvr).2; simpa using this
    have hnd : ((List.range N).filter fun v => lab v == v).Nodup := List.nodup_range.sublist List.filter_sublist
    have l1 := (List.getElem?_eq_some_iff.1 hs)
    have l2 := (List.getElem?_eq_some_iff.1 hr)
    obtain ⟨l1, l3⟩ := l1
    obtain ⟨l2, l4⟩ := l2
    have h3 := congrArg ((List.range N).filter fun v => lab v == v).idxOf (show ((List.range N).filter fun v => lab v == v)[b] = ((List.range N).filter fun v => lab v == v)[a] by rw [l3, l4, ← e1, ← e2])
    rwa [hnd.idxOf_getElem, hnd.idxOf_getElem] at h3
  · subst e
    rw [ha] at hb
    obtain rfl := Option.some.inj hb
    exact List.mem_filter.2 ⟨List.mem_range.2 hv, by simp⟩
theorem fcount {α : Type} {l : List α} {k : Nat} {e : α} (p : α → Bool) (h : l[k]? = some e) : ((l.take (k + 1)).filter p).length = ((l.take k).filter p).length + if p e then 1 else 0 := by
  rw [List.take_add_one, h, List.filter_append, List.length_append, Option.toList_some, List.filter_cons]
  split <;> rfl
def baseK (c : List Nat) : Int := if c.length = 1 then 2 else (c.length : Int)
/-- behind k edges -/
def eulE (l : List (Nat × Nat)) (k : Nat) (c : List Nat) : Int := baseK c - (((l.take k).filter fun e => decide (e.1 ∈ c)).length : Int)
/-- behind all edges and k faces -/
def eulF (l : List (Nat × Nat)) (F : List (List (Nat × Nat))) (k : Nat) (c : List Nat) : Int := eulE l l.length c + (((F.take k).filter fun f => decide ((f.headD (0, 0)).1 ∈ c)).length : Int)
theorem eulE_zero (l : List (Nat × Nat)) : eulE l 0 = baseK := by funext c; simp [eulE]
theorem eulF_zero (l : List (Nat × Nat)) (F : List (List (Nat × Nat))) : eulF l F 0 = eulE l l.length := by funext c; simp [eulF]
theorem eulF_all (l : List (Nat × Nat)) (F : List (List (Nat × Nat))) : eulF l F F.length = eulerK l F := by
  funext c
  rw [eulF, eulE, baseK, eulerK, List.take_length, List.take_length]
theorem eulE_step {cs : List (List Nat)} {l : List (Nat × Nat)} {k a : Nat} {e : Nat × Nat} {c : List Nat} (he : l[k]? = some e) (hc : cs[a]? = some c) (hm : ∀ (b : Nat) x, cs[b]? = some x → (e.1 ∈ x ↔ b = a)) : (cs.map (eulE l k)).set a (eulE l k c - 1) = cs.map (eulE l (k + 1)) := by
  have h1 : ∀ x, eulE l (k + 1) x = eulE l k x - if e.1 ∈ x then 1 else 0 := fun x => by
    have := fcount (fun e => decide (e.1 ∈ x)) he
    rw [eulE, eulE, this]
    by_cases h : e.1 ∈ x
    · rw [if_pos (decide_eq_true h), if_pos h]; omega
    · rw [if_neg (by simpa using h), if_neg h]; omega
  rw [← map_set (f := eulE l k) (g := eulE l (k + 1)) hc fun j x hj hne => by rw [h1, if_neg fun h => hne ((hm j x hj).1 h)]; omega]
  rw [h1, if_pos ((hm a c hc).2 rfl)]
theorem eulF_step {cs : List (List Nat)} {l : List (Nat × Nat)} {F : List (List (Nat × Nat))} {k a : Nat} {f : List (Nat × Nat)} {c : List Nat} (he : F[k]? = some f) (hc : cs[a]? = some c) (hm : ∀ (b : Nat) x, cs[b]? = some x → ((f.headD (0, 0)).1 ∈ x ↔ b = a)) : (cs.map (eulF l F k)).set a (eulF l F k c + 1) = cs.map (eulF l F (k + 1)) := by
  have h1 : ∀ x, eulF l F (k + 1) x = eulF l F k x + if (f.headD (0, 0)).1 ∈ x then 1 else 0 := fun x => by
    have := fcount (fun f => decide ((f.headD (0, 0)).1 ∈ x)) he
    rw [eulF, eulF, this]
    by_cases h : (f.headD (0, 0)).1 ∈ x
    · rw [if_pos (decide_eq_true h), if_pos h]; omega
    · rw [if_neg (by simpa using h), if_neg h]; omega
  rw [← map_set (f := eulF l F k) (g := eulF l F (k + 1)) hc fun j x hj hne => by rw [h1, if_neg fun h => hne ((hm j x hj).1 h)]; omega]
  rw [h1, if_pos ((hm a c hc).2 rfl)]
theorem eulE_bound (l : List (Nat × Nat)) (k : Nat) (c : List Nat) : -(l.length : Int) ≤ eulE l k c ∧ eulE l k c ≤ c.length + 2 := by
  have h1 := List.length_filter_le (fun e : Nat × Nat => decide (e.1 ∈ c)) (l.take k)
  rw [List.length_take] at h1
  rw [eulE, baseK]
  split <;> omega
theorem eulF_bound (l : List (Nat × Nat)) (F : List (List (Nat × Nat))) (k : Nat) (c : List Nat) : -(l.length : Int) ≤ eulF l F k c ∧ eulF l F k c ≤ c.length + 2 + F.length := by
  have h1 := List.length_filter_le (fun f : List (Nat × Nat) => decide ((f.headD (0, 0)).1 ∈ c)) (F.take k)
  rw [List.length_take] at h1
  have h2 := eulE_bound l l.length c
  rw [eulF]
  omega
/-- the numbers of the first components -/
def baseL (cs : List (List Nat)) (i : Nat) : List Int := (cs.take i).map baseK ++ List.replicate (cs.length - i) 0
theorem baseL_length {cs : List (List Nat)} {i : Nat} (h : i ≤ cs.length) : (baseL cs i).length = cs.length := by simp [baseL]; omega
theorem baseL_set {cs : List (List Nat)} {i : Nat} {c : List Nat} (h : cs[i]? = some c) : (baseL cs i).set i (baseK c) = baseL cs (i + 1) := by
  have hi := (List.getElem?_eq_some_iff.1 h).1
  have e1 : cs.length - i = (cs.length - (i + 1)) + 1 := by omega
  rw [baseL, baseL, e1, List.replicate_succ, List.set_append_right _ _ (by simp; omega), List.take_add_one, h]
  simp only [List.length_map, List.length_take, Option.toList_some, List.map_append, List.map_cons, List.map_nil, List.append_assoc]
  rw [show i - min i cs.length = 0 by omega]
  rfl
theorem baseL_zero (cs : List (List Nat)) : baseL cs 0 = List.replicate cs.length 0 := by simp [baseL]
theorem baseL_all (cs : List (List Nat)) : baseL cs cs.length = cs.map baseK := by simp [baseL]
end Fil
end
section
set_option linter.unusedVariables false
namespace Fil
theorem getD_setN (l : List Nat) (i x j : Nat) : (l.set i x).getD j 0 = if i = j ∧ i < l.length then x else l.getD j 0 := by
  rw [List.getD_eq_getElem?_getD, List.getElem?_set, List.getD_eq_getElem?_getD]
  by_cases h : i = j
  · subst h
    rw [if_pos rfl]
    by_cases h2 : i < l.length
    · rw [if_pos h2, if_pos ⟨rfl, h2⟩]; rfl
    · rw [if_neg h2, if_neg (fun h => h2 h.2), List.getElem?_eq_none (by omega)]
  · rw [if_neg h, if_neg (fun h' => h h'.1)]
theorem flat_le {α : Type} : ∀ {C : List (List α)}, (∀ l ∈ C, l ≠ []) → C.length ≤ C.flatten.length
  | [], _ => Nat.le_refl _
  | l :: C, h => by
    have h1 := flat_le (C := C) fun l hl => h l (.tail _ hl)
    have h2 := List.length_pos_iff.2 (h l (.head _))
    rw [List.flatten_cons, List.length_append, List.length_cons]; omega
end Fil
namespace Go.Sl
open Go Go.RowKit Fil
theorem iV_set (l : List Int) (k : Nat) (x : Int) : (iV l).set (k * 1) (.int .i64 x) = iV (l.set k x) := by rw [Nat.mul_one, iV, iV, List.map_set]
end Go.Sl
namespace Go.Proofs.YtpajjnkmaebhcabGreat
open Go.RowKit Go.Sl Fil
set_option maxRecDepth 100000
set_option maxHeartbeats 8000000
set_option linter.unusedVariables false
set_option linter.unusedSimpArgs false
attribute [local irreducible] Code.wp wpList bodyPost wpQuiet Exit.then Exit.inBlock Post wpAnyH wpOp
theorem rotEuler_ok (n : Int) (v : Value) (es : List E) (vr : Value) (hr0 : List Value) (R : List (List Nat)) (w : World) (hs : Shp v es.length) (hr : RO w No v (esV es)) (hG : RightG n es) (hR : ROs w No vr hr0 R) (hRot : RotL n.toNat (tn es) R) :
    Calls Tryz.prog 60 #[.agg #[.int .i64 n, v], vr] w (Post w No fun r L' => ∃ (vo : Value) (o lab : Nat → Nat), Lev n.toNat (nb (tn es)) o lab ∧ r = .tuple #[vo, .int .i64 0] ∧ L' = [rowHP vo 3 1 (compsS n.toNat lab).length (iV (eulerL n.toNat (tn es) lab (facesR n.toNat (tn es) R)))]) := by
  have hsr := hR.shp
  have hrr := hR.ro
  have hlo := hG.lo
  have hhi := hG.hi
  have hmany := hG.many
  have hRl := hRot.len
  refine enter0 (vs := [_, _]) Tryz.func60 rfl Tryz.ntmps60 rfl ?_
  repeat' first
    | refine k_then ?_ | refine c_seq ?_ | refine c_region ?_ | refine s_nil ?_ | refine s_move (by exact rfl) (by exact rfl) ?_ | refine s_assign (by exact rfl) (by exact rfl) ?_ | refine s_ldk_box (by exact rfl) (by exact rfl) (by exact .head _) (by exact rfl) (by exact rfl) ?_ | refine o_box (by exact rfl) (by exact rfl) (fun b => ?_)
  refine o_call (by exact rfl) (by exact rfl) (fun w h => rotFaces_ok n v es vr hr0 R w hs (ro_old h hr) hG (ros_old h hR) hRot) ?_
  rintro _ _ ⟨vf, hf, rfl, hfl, rfl⟩
  repeat' first
    | refine k_then ?_ | refine c_seq ?_ | refine c_region ?_ | refine s_nil ?_ | refine s_move (by exact rfl) (by exact rfl) ?_ | refine s_assign (by exact rfl) (by exact rfl) ?_ | refine s_fa (by exact rfl) (by exact rfl) ?_ | refine s_ld_box (by exact rfl) (by exact rfl) (by exact .tail _ (.tail _ (.head _))) (by exact rfl) ?_ | refine s_neq (by exact rfl) (by exact rfl) (by exact rfl) ?_ | refine s_extract (by exact rfl) (by exact rfl) (by exact rfl) ?_ | refine c_skip ?_ | (refine c_cond_p (by exact rfl) (fun h => ?_) (fun h => ?_) <;> try (exfalso; omega))
  refine o_make (by exact rfl) (by exact rfl) (by exact rfl) (by omega) (by omega) fun vm hvm => ?_
  repeat' first
    | refine k_then ?_ | refine c_seq ?_ | refine c_region ?_ | refine s_nil ?_ | refine s_assign (by exact rfl) (by exact rfl) ?_ | refine s_ldk_box (by exact rfl) (by exact rfl) (by exact .tail _ (.tail _ (.tail _ (.head _)))) (by exact rfl) (by exact rfl) ?_
  refine o_call (by exact rfl) (by exact rfl) (fun w h => Components_ok n v es w hs (ro_old h hr) hG) ?_
  rintro vc _ ⟨met, bout, lab, hc, hB, hcl, rfl⟩
  have hLev := hB.lev
  rw [hB.comps] at hcl ⊢
  have hone : ∀ u, u < n.toNat → ∃ a c, (compsS n.toNat lab)[a]? = some c ∧ u ∈ c ∧ ∀ (b : Nat) x, (compsS n.toNat lab)[b]? = some x → (u ∈ x ↔ b = a) := fun u hu => comp_one hLev hu
  have hcN : (compsS n.toNat lab).length ≤ n.toNat := compsI_length _ _ lab
  have hcl2 : ∀ c ∈ compsS n.toNat lab, c.length ≤ n.toNat ∧ ∀ u ∈ c, u < n.toNat := fun c hc => by
    obtain ⟨r, h1, h2, rfl⟩ := comp_mem hc
    refine ⟨by have := List.length_filter_le (fun u => lab u == r) (List.range n.toNat); simpa using this, fun u hu => ?_⟩
    simpa using (List.mem_filter.1 hu).1
  have hdec := facesR_dec hG hRot
  have hFne : ∀ f ∈ facesR n.toNat (tn es) R, ∃ d t, f = d :: t ∧ d.1 < n.toNat := fun f hf => by
    cases f with
    | nil => exact absurd rfl (hdec.cy _ hf).1
    | cons d t => exact ⟨d, t, rfl, (dart_lt hG (hdec.perm.mem_iff.1 (List.mem_flatten.2 ⟨_, hf, .head _⟩))).1⟩
  have hFl : (facesR n.toNat (tn es) R).length ≤ 2 * es.length := by
    have h1 := flat_le (C := facesR n.toNat (tn es) R) fun f hf => (hdec.cy f hf).1
    have h2 := hdec.perm.length_eq
    rw [dartsAll_length hG] at h2
    omega
  generalize facesR n.toNat (tn es) R = Fs at *
  generalize hcs : compsS n.toNat lab = cs at *
  refine know_row (v := vc) (.head _) fun hvc _ => ?_
  refine know_row (v := vf) (by exact .tail _ (.tail _ (.tail _ (.head _)))) fun hvf _ => ?_
  repeat' first
    | refine k_then ?_ | refine c_seq ?_ | refine c_region ?_ | refine s_nil ?_ | refine s_move (by exact rfl) (by exact rfl) ?_ | refine s_assign (by exact rfl) (by exact rfl) ?_ | refine s_len (by exact rfl) (by exact rfl) (by assumption) ?_
  refine o_make (by exact rfl) (by exact rfl) (by exact rfl) (by omega) (by omega) fun vo hvo => ?_
  repeat' first
    | refine k_then ?_ | refine c_seq ?_ | refine c_region ?_ | refine s_nil ?_ | refine s_move (by exact rfl) (by exact rfl) ?_ | refine s_assign (by exact rfl) (by exact rfl) ?_ | refine s_len (by exact rfl) (by exact rfl) (by assumption) ?_ | refine c_block ?_
  generalize hN : n.toNat = N at *
  have hnN : n = (N : Int) := by omega
  refine c_loop (fun x : Nat × List Nat => x.1 ≤ cs.length ∧ x.2.length = N ∧ ∀ (a : Nat) c, cs[a]? = some c → a < x.1 → ∀ u ∈ c, x.2.getD u 0 = a)
    (fun x => [(2, .pointer (some ⟨b, 0, none⟩)), (6, vf), (8, vm), (9, vc), (10, vo), (36, vc), (37, .int .i64 (cs.length : Int)), (38, .int .i64 (x.1 : Int))])
    (fun x => [rowHP vo 3 1 cs.length (iV (baseL cs x.1)), rowHP vm 3 1 N (nV x.2), rowHP vc 28 1 cs.length hc, starHP (kids rowN hc cs), rowHP vf 101 1 Fs.length hf, starHP (kids rowD hf Fs), boxHP b 24 [.int .i64 n, v]])
    (fun x => cs.length - x.1) (0, List.replicate N 0) [0, 2, 0, 0, 0, 0, 0] ⟨Nat.zero_le _, by simp, fun a c _ h => by simp at h⟩ ?_ ⟨rfl, rfl, rfl, rfl, rfl, rfl, rfl, rfl, trivial⟩ ?_
  · have z1 : (madeCells (Value.int .i64 0).cells (N * 1)).toList = nV (List.replicate N 0) := by rw [made1 rfl]; simp [nV]
    have z2 : (madeCells (Value.int .i64 0).cells ((cs.length : Int).toNat * 1)).toList = iV (baseL cs 0) := by rw [made1 rfl, baseL_zero]; simp [iV]
    rw [z1, z2]
    exact rfl
  rintro ⟨i, y⟩ ⟨hi, hyl, hy⟩
  dsimp only at hi hyl hy ⊢
  by_cases hil : i < cs.length
  · obtain ⟨c, hci⟩ : ∃ c, cs[i]? = some c := ⟨_, List.getElem?_eq_getElem hil⟩
    obtain ⟨hd, hhd⟩ : ∃ hd, hc[i]? = some hd := ⟨_, List.getElem?_eq_getElem (by omega)⟩
    have hhd1 : hc[i * 1]? = some hd := by rw [Nat.mul_one]; exact hhd
    obtain ⟨hcl3, hclt⟩ := hcl2 c (List.mem_of_getElem? hci)
    have hbs := baseL_set hci
    have hbl := baseL_length hi
    have hkd : rowHP hd 3 1 c.length (nV c) ∈ kids rowN hc cs := kids_mem (f := rowN) hhd hci
    repeat' first
      | refine k_then ?_ | refine c_seq ?_ | refine c_region ?_ | refine s_nil ?_ | refine s_move (by exact rfl) (by exact rfl) ?_ | refine s_assign (by exact rfl) (by exact rfl) ?_ | refine s_lss (by exact rfl) (by exact rfl) (by exact rfl) ?_ | refine s_idx (by exact rfl) (by exact rfl) (by exact rfl) (by assumption) (by first | assumption | omega) ?_ | refine s_ld_row (by exact rfl) (by exact rfl) (by exact .tail _ (.tail _ (.head _))) (by assumption) ?_ | refine c_block ?_ | refine c_skip ?_ | (refine c_cond_p (by exact rfl) (fun h => ?_) (fun h => ?_) <;> try (exfalso; omega))
    refine know_kid (by exact .tail _ (.tail _ (.tail _ (.head _)))) hkd fun hsd _ => ?_
    repeat' first
      | refine s_len (by exact rfl) (by exact rfl) (by assumption) ?_ | refine s_idx (by exact rfl) (by exact rfl) (by exact rfl) (by assumption) (by first | assumption | omega) ?_
    refine o_st_row (i := 0) (by exact rfl) (by exact rfl) (by exact rfl) rfl (by omega) ?_
    rw [iV_set]
    refine s_nil ?_
    refine k_then ?_
    refine c_seq ?_
    refine c_join (X := Unit) (fun _ => [(2, .pointer (some ⟨b, 0, none⟩)), (6, vf), (8, vm), (9, vc), (10, vo), (11, .int .i64 (i : Int)), (12, hd), (36, vc), (37, .int .i64 (cs.length : Int)), (38, .int .i64 (i : Int))]) (fun _ => [rowHP vo 3 1 cs.length (iV (baseL cs (i + 1))), rowHP vm 3 1 N (nV y), rowHP vc 28 1 cs.length hc, starHP (kids rowN hc cs), rowHP vf 101 1 Fs.length hf, starHP (kids rowD hf Fs), boxHP b 24 [.int .i64 n, v]]) (fun K hk => ?_) (fun _ => ?_)
    · repeat' first
        | refine k_then ?_ | refine c_seq ?_ | refine c_region ?_ | refine s_nil ?_ | refine s_move (by exact rfl) (by exact rfl) ?_ | refine s_eql (by exact rfl) (by exact rfl) (by exact rfl) ?_ | refine s_len (by exact rfl) (by exact rfl) (by assumption) ?_ | refine s_idx (by exact rfl) (by exact rfl) (by exact rfl) (by assumption) (by first | assumption | omega) ?_ | refine c_skip ?_ | (refine c_cond_p (by exact rfl) (fun h => ?_) (fun h => ?_) <;> try (exfalso; omega))
      · refine o_st_row (i := 0) (by exact rfl) (by exact rfl) (by exact rfl) rfl (by omega) ?_
        rw [iV_set]
        repeat' first
          | refine k_then ?_ | refine s_nil ?_
        refine j_end hk () [0, 0, 0, 0, 0, 0, 0] ?_ ⟨rfl, rfl, rfl, rfl, rfl, rfl, rfl, rfl, rfl, rfl, trivial⟩
        rw [← hbs, baseK, if_pos (by omega), show ((baseL cs i).set i (c.length : Int)).set i 2 = (baseL cs i).set i 2 from List.set_set ..]
        exact rfl
      · refine j_end hk () [0, 0, 0, 0, 0, 0, 0] ?_ ⟨rfl, rfl, rfl, rfl, rfl, rfl, rfl, rfl, rfl, rfl, trivial⟩
        rw [← hbs, baseK, if_neg (by omega)]
        exact rfl
    · repeat' first
        | refine k_then ?_ | refine c_seq ?_ | refine c_region ?_ | refine s_nil ?_ | refine s_move (by exact rfl) (by exact rfl) ?_ | refine s_len (by exact rfl) (by exact rfl) (by assumption) ?_ | refine c_block ?_
      refine c_loop (fun x : Nat × List Nat => x.1 ≤ c.length ∧ x.2.length = N ∧ (∀ (a : Nat) c', cs[a]? = some c' → a < i → ∀ u ∈ c', x.2.getD u 0 = a) ∧ ∀ u ∈ c.take x.1, x.2.getD u 0 = i)
        (fun x => [(2, .pointer (some ⟨b, 0, none⟩)), (6, vf), (8, vm), (9, vc), (10, vo), (11, .int .i64 (i : Int)), (36, vc), (37, .int .i64 (cs.length : Int)), (38, .int .i64 (i : Int)), (54, hd), (55, .int .i64 (c.length : Int)), (56, .int .i64 (x.1 : Int))])
        (fun x => [rowHP vo 3 1 cs.length (iV (baseL cs (i + 1))), rowHP vm 3 1 N (nV x.2), rowHP vc 28 1 cs.length hc, starHP (kids rowN hc cs), rowHP vf 101 1 Fs.length hf, starHP (kids rowD hf Fs), boxHP b 24 [.int .i64 n, v]])
        (fun x => c.length - x.1) (0, y) [0, 0, 0, 0, 0, 0, 0] ⟨Nat.zero_le _, hyl, hy, by simp⟩ (by exact rfl) ⟨rfl, rfl, rfl, rfl, rfl, rfl, rfl, rfl, rfl, rfl, rfl, rfl, trivial⟩ ?_
      rintro ⟨j, z⟩ ⟨hj, hzl, hz1, hz2⟩
      dsimp only at hj hzl hz1 hz2 ⊢
      by_cases hjl : j < c.length
      · have hcj := nV_get hjl
        have hcm : c.getD j 0 ∈ c := by rw [List.getD_eq_getElem?_getD, List.getElem?_eq_getElem hjl]; exact List.getElem_mem _
        have hcu := hclt _ hcm
        repeat' first
          | refine k_then ?_ | refine c_seq ?_ | refine c_region ?_ | refine s_nil ?_ | refine s_move (by exact rfl) (by exact rfl) ?_ | refine s_assign (by exact rfl) (by exact rfl) ?_ | refine s_lss (by exact rfl) (by exact rfl) (by exact rfl) ?_ | refine s_idx (by exact rfl) (by exact rfl) (by exact rfl) (by assumption) (by first | assumption | omega) ?_ | refine s_ld_kid (by exact rfl) (by exact rfl) (by assumption) (by exact .tail _ (.tail _ (.tail _ (.head _)))) (by assumption) ?_ | refine c_block ?_ | refine c_skip ?_ | (refine c_cond_p (by exact rfl) (fun h => ?_) (fun h => ?_) <;> try (exfalso; omega))
        refine o_st_row (i := 1) (by exact rfl) (by exact rfl) (by exact rfl) rfl (by omega) ?_
        rw [nV_set]
        repeat' first
          | refine k_then ?_ | refine c_region ?_ | refine s_nil ?_ | refine s_move (by exact rfl) (by exact rfl) ?_ | refine s_add (by exact rfl) (by exact rfl) (by exact rfl) (by omega) ?_ | refine k_blk ?_
        refine c_round (j + 1, z.set (c.getD j 0) i) [0, 0, 0, 0, 0, 0, 0] (by exact rfl) ⟨rfl, rfl, rfl, rfl, rfl, rfl, rfl, rfl, rfl, rfl, rfl, rfl, trivial⟩ ⟨by dsimp only; omega, by dsimp only; rw [List.length_set]; exact hzl, fun a c' ha hai u hu => ?_, fun u hu => ?_⟩ (by dsimp only; omega)
        · dsimp only
          rw [getD_setN]
          split
          · exfalso
            rename_i he
            obtain ⟨a0, c0, h1, h2, h3⟩ := hone u ((hcl2 c' (List.mem_of_getElem? ha)).2 u hu)
            have e1 := (h3 a c' ha).1 hu
            have e2 := (h3 i c hci).1 (he.1 ▸ hcm)
            omega
          · exact hz1 a c' ha hai u hu
        · dsimp only at hu ⊢
          rw [getD_setN]
          split
          · rfl
          · rename_i he
            rw [List.take_add_one, List.getElem?_eq_getElem hjl] at hu
            rcases List.mem_append.1 hu with hu | hu
            · exact hz2 u hu
            · exfalso
              obtain rfl : u = c[j] := by simpa using hu
              refine he ⟨?_, by rw [hzl]; exact hcu⟩
              rw [List.getD_eq_getElem?_getD, List.getElem?_eq_getElem hjl]; rfl
      · repeat' first
          | refine k_then ?_ | refine c_seq ?_ | refine c_region ?_ | refine s_nil ?_ | refine s_move (by exact rfl) (by exact rfl) ?_ | refine s_lss (by exact rfl) (by exact rfl) (by exact rfl) ?_ | refine s_add (by exact rfl) (by exact rfl) (by exact rfl) (by omega) ?_ | refine c_exit ?_ | refine k_then_exit ?_ | refine k_blk ?_ | refine k_blk_eq ?_ | (refine c_cond_p (by exact rfl) (fun h => ?_) (fun h => ?_) <;> try (exfalso; omega))
        rw [List.take_of_length_le (by omega)] at hz2
        refine c_round (i + 1, z) [0, 0, 0, 0, 0, 0, 0] (by exact rfl) ⟨rfl, rfl, rfl, rfl, rfl, rfl, rfl, rfl, trivial⟩ ⟨by dsimp only; omega, hzl, fun a c' ha hai u hu => ?_⟩ (by dsimp only; omega)
        by_cases hai2 : a < i
        · exact hz1 a c' ha hai2 u hu
        · obtain rfl : a = i := by dsimp only at hai; omega
          rw [hci] at ha
          obtain rfl := Option.some.inj ha
          exact hz2 u hu
  · repeat' first
      | refine k_then ?_ | refine c_seq ?_ | refine c_region ?_ | refine s_nil ?_ | refine s_move (by exact rfl) (by exact rfl) ?_ | refine s_fa (by exact rfl) (by exact rfl) ?_ | refine s_ld_box (by exact rfl) (by exact rfl) (by exact .tail _ (.tail _ (.tail _ (.tail _ (.tail _ (.tail _ (.head _))))))) (by exact rfl) ?_ | refine s_lss (by exact rfl) (by exact rfl) (by exact rfl) ?_ | refine s_len (by exact rfl) (by exact rfl) (by assumption) ?_ | refine c_block ?_ | refine c_exit ?_ | refine k_then_exit ?_ | refine k_blk_eq ?_ | (refine c_cond_p (by exact rfl) (fun h => ?_) (fun h => ?_) <;> try (exfalso; omega))
    obtain rfl : i = cs.length := by omega
    rw [baseL_all, ← eulE_zero (tn es)]
    have hat : ∀ u, u < N → ∃ (a : Nat) (c : List Nat), cs[a]? = some c ∧ (nV y)[u * 1]? = some (.int .i64 (a : Int)) ∧ a < cs.length ∧ c.length ≤ N ∧ ∀ (b : Nat) x, cs[b]? = some x → (u ∈ x ↔ b = a) := fun u hu => by
      obtain ⟨a, c, h1, h2, h3⟩ := hone u hu
      have h4 := (List.getElem?_eq_some_iff.1 h1).1
      refine ⟨a, c, h1, ?_, h4, (hcl2 c (List.mem_of_getElem? h1)).1, h3⟩
      rw [nV_get (by omega), hy a c h1 h4 u h2]
    refine c_loop (fun k : Nat => k ≤ es.length) (fun k => [(2, .pointer (some ⟨b, 0, none⟩)), (6, vf), (8, vm), (10, vo), (67, v), (68, .int .i64 (es.length : Int)), (69, .int .i64 (k : Int))])
      (fun k => [rowHP vo 3 1 cs.length (iV (cs.map (eulE (tn es) k))), rowHP vm 3 1 N (nV y), rowHP vf 101 1 Fs.length hf, starHP (kids rowD hf Fs)])
      (fun k => es.length - k) 0 [0, 0, 2, 2] (Nat.zero_le _) (by exact rfl) ⟨rfl, rfl, rfl, rfl, rfl, rfl, rfl, trivial⟩ ?_
    rintro k hk
    by_cases hlt : k < es.length
    · obtain ⟨e, he⟩ : ∃ e, es[k]? = some e := ⟨_, List.getElem?_eq_getElem hlt⟩
      have hE := esV_at he
      obtain ⟨o1, o2, o3, o4, _⟩ := hG.ok e (List.mem_of_getElem? he)
      obtain ⟨a, c, h1, h2, h3, h4, h5⟩ := hat e.1.toNat (by omega)
      have het : (tn es)[k]? = some (e.1.toNat, e.2.1.toNat) := by rw [tn, List.getElem?_map, he]; rfl
      have hst := eulE_step het h1 h5
      have hbd := eulE_bound (tn es) k c
      rw [tn_len] at hbd
      have hgx : (iV (cs.map (eulE (tn es) k)))[a * 1]? = some (.int .i64 (eulE (tn es) k c)) := by
        rw [Nat.mul_one, iV, List.getElem?_map, List.getElem?_map, h1]; rfl
      repeat' first
        | refine k_then ?_ | refine c_seq ?_ | refine c_region ?_ | refine s_nil ?_ | refine s_lss (by exact rfl) (by exact rfl) (by exact rfl) ?_ | refine s_idx (by exact rfl) (by exact rfl) (by exact rfl) (by assumption) (by first | assumption | omega) ?_ | refine s_ldk_ro (by exact rfl) (by exact rfl) (by assumption) (by decide) (by assumption) (by exact rfl) ?_ | refine o_alloc (by exact rfl) (fun b => ?_) | refine c_block ?_ | refine c_skip ?_ | (refine c_cond_p (by exact rfl) (fun h => ?_) (fun h => ?_) <;> try (exfalso; omega))
      refine o_stk_box (i := 0) (us := eV e) (by exact rfl) (by exact rfl) (by exact rfl) (by exact rfl) (by exact rfl) (by simp [eV, Value.oneCell']) (by simp [Value.cells]) ?_
      repeat' first
        | refine k_then ?_ | refine c_region ?_ | refine s_nil ?_ | refine s_move (by exact rfl) (by exact rfl) ?_ | refine s_fa (by exact rfl) (by exact rfl) ?_ | refine s_ld_box (by exact rfl) (by exact rfl) (by exact .head _) (by exact rfl) ?_ | refine s_sub (by exact rfl) (by exact rfl) (by exact rfl) (by omega) ?_ | refine s_idx (by exact rfl) (by exact rfl) (by exact rfl) (by assumption) (by first | assumption | omega) ?_ | refine s_idxi (by exact rfl) (by exact rfl) (by exact rfl) (by assumption) (by first | assumption | omega) ?_ | refine s_ld_row (by exact rfl) (by exact rfl) (by first | exact .tail _ (.head _) | exact .tail _ (.tail _ (.head _))) (by assumption) ?_
      refine o_st_row (i := 1) (by exact rfl) (by exact rfl) (by exact rfl) rfl (by omega) ?_
      rw [iV_set]
      repeat' first
        | refine k_then ?_ | refine c_region ?_ | refine s_nil ?_ | refine s_move (by exact rfl) (by exact rfl) ?_ | refine s_add (by exact rfl) (by exact rfl) (by exact rfl) (by omega) ?_ | refine k_blk ?_
      refine c_round (k + 1) [1, 1, 1, 1] (by rw [← hst]; exact rfl) ⟨rfl, rfl, rfl, rfl, rfl, rfl, rfl, trivial⟩ (by omega) (by omega)
    · repeat' first
        | refine k_then ?_ | refine c_seq ?_ | refine c_region ?_ | refine s_nil ?_ | refine s_move (by exact rfl) (by exact rfl) ?_ | refine s_lss (by exact rfl) (by exact rfl) (by exact rfl) ?_ | refine s_len (by exact rfl) (by exact rfl) (by assumption) ?_ | refine c_block ?_ | refine c_exit ?_ | refine k_then_exit ?_ | refine k_blk_eq ?_ | (refine c_cond_p (by exact rfl) (fun h => ?_) (fun h => ?_) <;> try (exfalso; omega))
      obtain rfl : k = es.length := by omega
      rw [← tn_len es, ← eulF_zero (tn es) Fs]
      refine c_loop (fun k : Nat => k ≤ Fs.length) (fun k => [(8, vm), (10, vo), (84, vf), (85, .int .i64 (Fs.length : Int)), (86, .int .i64 (k : Int))])
        (fun k => [rowHP vo 3 1 cs.length (iV (cs.map (eulF (tn es) Fs k))), rowHP vm 3 1 N (nV y), rowHP vf 101 1 Fs.length hf, starHP (kids rowD hf Fs)])
        (fun k => Fs.length - k) 0 [0, 0, 0, 0] (Nat.zero_le _) (by exact rfl) ⟨rfl, rfl, rfl, rfl, rfl, trivial⟩ ?_
      rintro k hk
      by_cases hlt : k < Fs.length
      · obtain ⟨f, hf1⟩ : ∃ f, Fs[k]? = some f := ⟨_, List.getElem?_eq_getElem hlt⟩
        obtain ⟨hd, hhd⟩ : ∃ hd, hf[k]? = some hd := ⟨_, List.getElem?_eq_getElem (by omega)⟩
        have hhd1 : hf[k * 1]? = some hd := by rw [Nat.mul_one]; exact hhd
        obtain ⟨d, t, rfl, hdN⟩ := hFne f (List.mem_of_getElem? hf1)
        obtain ⟨a, c, h1, h2, h3, h4, h5⟩ := hat d.1 hdN
        have hst := eulF_step (l := tn es) hf1 h1 h5
        have hbd := eulF_bound (tn es) Fs k c
        rw [tn_len] at hbd
        have hgx : (iV (cs.map (eulF (tn es) Fs k)))[a * 1]? = some (.int .i64 (eulF (tn es) Fs k c)) := by
          rw [Nat.mul_one, iV, List.getElem?_map, List.getElem?_map, h1]; rfl
        have hkd : rowHP hd 100 2 (d :: t).length (dsV (d :: t)) ∈ kids rowD hf Fs := kids_mem (f := rowD) hhd hf1
        have hd0 : (dsV (d :: t))[0 * 2 + 0]? = some (.int .i64 (d.1 : Int)) := rfl
        have hpos : 0 < (d :: t).length := by simp
        repeat' first
          | refine k_then ?_ | refine c_seq ?_ | refine c_region ?_ | refine s_nil ?_ | refine s_move (by exact rfl) (by exact rfl) ?_ | refine s_assign (by exact rfl) (by exact rfl) ?_ | refine s_lss (by exact rfl) (by exact rfl) (by exact rfl) ?_ | refine s_idx (by exact rfl) (by exact rfl) (by exact rfl) (by assumption) (by first | assumption | omega) ?_ | refine s_ld_row (by exact rfl) (by exact rfl) (by exact .tail _ (.tail _ (.head _))) (by assumption) ?_ | refine c_block ?_ | refine c_skip ?_ | (refine c_cond_p (by exact rfl) (fun h => ?_) (fun h => ?_) <;> try (exfalso; omega))
        refine know_kid (by exact .tail _ (.tail _ (.tail _ (.head _)))) hkd fun hsd _ => ?_
        repeat' first
          | refine s_add (by exact rfl) (by exact rfl) (by exact rfl) (by omega) ?_ | refine s_idx (by exact rfl) (by exact rfl) (by exact rfl) (by assumption) (by first | assumption | omega) ?_ | refine s_fap (by exact rfl) (by exact rfl) (by assumption) (by omega) ?_ | refine s_ld_row (by exact rfl) (by exact rfl) (by first | exact .head _ | exact .tail _ (.head _)) (by assumption) ?_ | refine s_ld_kid (by exact rfl) (by exact rfl) (by assumption) (by exact .tail _ (.tail _ (.tail _ (.head _)))) (by assumption) ?_
        refine o_st_row (i := 0) (by exact rfl) (by exact rfl) (by exact rfl) rfl (by omega) ?_
        rw [iV_set]
        repeat' first
          | refine k_then ?_ | refine c_region ?_ | refine s_nil ?_ | refine s_move (by exact rfl) (by exact rfl) ?_ | refine s_add (by exact rfl) (by exact rfl) (by exact rfl) (by omega) ?_ | refine k_blk ?_
        refine c_round (k + 1) [0, 0, 0, 0] (by rw [← hst]; exact rfl) ⟨rfl, rfl, rfl, rfl, rfl, trivial⟩ (by omega) (by omega)
      · repeat' first
          | refine k_then ?_ | refine c_seq ?_ | refine c_region ?_ | refine s_nil ?_ | refine s_move (by exact rfl) (by exact rfl) ?_ | refine s_assign (by exact rfl) (by exact rfl) ?_ | refine s_lss (by exact rfl) (by exact rfl) (by exact rfl) ?_ | refine c_exit ?_ | refine c_ret ?_ | refine k_then_exit ?_ | refine k_blk_eq ?_ | (refine c_cond_p (by exact rfl) (fun h => ?_) (fun h => ?_) <;> try (exfalso; omega))
        obtain rfl : k = Fs.length := by omega
        rw [eulF_all]
        refine retL [.tmp 4, .tmp 5] [vo, .int .i64 0] [0] rfl ⟨res_tmp rfl, res_tmp rfl, trivial⟩ (by exact rfl) ⟨vo, _, lab, hLev, rfl, ?_⟩
        rw [eulerL, hcs]
theorem rotEuler_no (n : Int) (v : Value) (es : List E) (vr : Value) (hr0 : List Value) (ls : List (List Int)) (w : World) (hs : Shp v es.length) (hr : RO w No v (esV es)) (hm : es.length < 4611686018427387904) (hR : ROsI w No vr hr0 ls) (hlen : ∀ l ∈ ls, l.length ≤ 1048576) (hk : rotK n es ls ≠ 0) :
    Calls Tryz.prog 60 #[.agg #[.int .i64 n, v], vr] w (Post w No (Just (.tuple #[.slice none 0 0, .int .i64 (rotK n es ls)]))) := by
  have hsr := hR.shp
  have hrr := hR.ro
  refine enter0 (vs := [_, _]) Tryz.func60 rfl Tryz.ntmps60 rfl ?_
  repeat' first
    | refine k_then ?_ | refine c_seq ?_ | refine c_region ?_ | refine s_nil ?_ | refine s_move (by exact rfl) (by exact rfl) ?_ | refine s_assign (by exact rfl) (by exact rfl) ?_ | refine s_ldk_box (by exact rfl) (by exact rfl) (by exact .head _) (by exact rfl) (by exact rfl) ?_ | refine o_box (by exact rfl) (by exact rfl) (fun b => ?_)
  refine s_call (by exact rfl) (by exact rfl) (fun w h => rotFaces_no n v es vr hr0 ls w hs (ro_old h hr) hm (rosI_old h hR) hlen hk) ?_
  repeat' first
    | refine k_then ?_ | refine c_seq ?_ | refine c_region ?_ | refine s_nil ?_ | refine s_move (by exact rfl) (by exact rfl) ?_ | refine s_assign (by exact rfl) (by exact rfl) ?_ | refine s_neq (by exact rfl) (by exact rfl) (by exact rfl) ?_ | refine s_extract (by exact rfl) (by exact rfl) (by exact rfl) ?_ | refine c_ret ?_ | refine k_then_ret ?_ | (refine c_cond_p (by exact rfl) (fun h => ?_) (fun h => ?_) <;> try (exfalso; omega))
  refine retL [.tmp 4, .tmp 5] [.slice none 0 0, .int .i64 (rotK n es ls)] [] rfl ⟨res_tmp rfl, res_tmp rfl, trivial⟩ (by exact rfl) ⟨rfl, rfl⟩
end Go.Proofs.YtpajjnkmaebhcabGreat
end
section
set_option linter.unusedVariables false
namespace Fil
theorem lev_comps {N : Nat} {A : Nat → List Nat} {o o' lab lab' : Nat → Nat} (h : Lev N A o lab) (h' : Lev N A o' lab') : compsS N lab = compsS N lab' := compsS_congr (h.lab_eq h')
theorem lev_euler {N : Nat} {A : Nat → List Nat} {l : List (Nat × Nat)} {F : List (List (Nat × Nat))} {o o' lab lab' : Nat → Nat} (h : Lev N A o lab) (h' : Lev N A o' lab') : eulerL N l lab F = eulerL N l lab' F := by rw [eulerL, eulerL, lev_comps h h']
/-- is it in the plane -/
def planeR (N : Nat) (l : List (Nat × Nat)) (lab : Nat → Nat) (R : List (List Nat)) : Int := if (eulerL N l lab (facesR N l R)).any (fun x => decide (x ≠ 2)) then 12 else 0
end Fil
namespace Go.Proofs.YtpajjnkmaebhcabGreat
open Go.RowKit Go.Sl Fil
set_option maxRecDepth 100000
set_option maxHeartbeats 8000000
set_option linter.unusedVariables false
set_option linter.unusedSimpArgs false
attribute [local irreducible] Code.wp wpList bodyPost wpQuiet Exit.then Exit.inBlock Post wpAnyH wpOp
theorem indexFI_ok (v : Value) (l : List Int) (f : FuncId) (caps : List Value) (p : Int → Bool) (w : World) [FnTy Tryz.prog f] (hs : Shp v l.length) (hr : RO w No v (iV l))
    (hcl : ∀ (k : Nat) e, l[k]? = some e → ∀ w' S', Mod w No w' S' → Calls Tryz.prog f ([Value.int .i64 e] ++ caps).toArray w' (Post w' No (Just (.bool (p e))))) :
    Calls Tryz.prog 86 #[v, .func (.func f) #[] caps.toArray] w (Post w No (Just (.int .i64 (match l.findIdx? p with | some i => (i : Int) | none => -1)))) := by
  have hm := hs.1
  simp only [maxLen] at hm
  refine enter0 (vs := [_, _]) Tryz.func86 rfl Tryz.ntmps86 rfl ?_
  repeat' first
    | refine k_then ?_ | refine c_seq ?_ | refine c_region ?_ | refine s_nil ?_ | refine s_move (by exact rfl) (by exact rfl) ?_ | refine s_assign (by exact rfl) (by exact rfl) ?_ | refine s_len (by exact rfl) (by exact rfl) (by assumption) ?_ | refine c_block ?_
  refine c_loop (fun k : Nat => k ≤ l.length ∧ ∀ e ∈ l.take k, p e = false) (fun k => [(0, v), (1, .func (.func f) #[] caps.toArray), (6, v), (7, .int .i64 (l.length : Int)), (8, .int .i64 (k : Int))]) (fun _ => []) (fun k => l.length - k) 0 [] ⟨by omega, by simp⟩ rfl ⟨rfl, rfl, rfl, rfl, rfl, trivial⟩ ?_
  rintro k ⟨hk, hq⟩
  by_cases hlt : k < l.length
  · obtain ⟨e, he⟩ : ∃ e, l[k]? = some e := ⟨_, List.getElem?_eq_getElem hlt⟩
    have hE : (iV l)[k * 1]? = some (.int .i64 e) := by rw [Nat.mul_one, iV, List.getElem?_map, he]; rfl
    repeat' first
      | refine k_then ?_ | refine c_seq ?_ | refine c_region ?_ | refine s_nil ?_ | refine s_move (by exact rfl) (by exact rfl) ?_ | refine s_assign (by exact rfl) (by exact rfl) ?_ | refine s_lss (by exact rfl) (by exact rfl) (by exact rfl) ?_ | refine s_idx (by exact rfl) (by exact rfl) (by exact rfl) (by assumption) (by first | assumption | omega) ?_ | refine s_ld_ro (by exact rfl) (by exact rfl) (by assumption) (by assumption) ?_ | refine c_block ?_ | refine c_skip ?_ | (refine c_cond_p (by exact rfl) (fun h => ?_) (fun h => ?_) <;> try (exfalso; omega))
    refine s_callv (pre := []) (by exact rfl) (by exact rfl) (by exact rfl) (fun w h => h.mod0.elim fun S' hm => hcl k e he w S' hm) ?_
    cases hp : p e
    · repeat' first
        | refine k_then ?_ | refine c_region ?_ | refine s_nil ?_ | refine s_move (by exact rfl) (by exact rfl) ?_ | refine s_add (by exact rfl) (by exact rfl) (by exact rfl) (by omega) ?_ | refine c_skip ?_ | refine k_blk ?_ | refine c_cond_f (by exact rfl) ?_
      refine c_round (k + 1) [] (by exact rfl) ⟨rfl, rfl, rfl, rfl, rfl, trivial⟩ ⟨by omega, ?_⟩ (by omega)
      rw [List.take_add_one, he]
      intro a ha
      rcases List.mem_append.1 ha with ha | ha
      · exact hq a ha
      · obtain rfl : a = e := by simpa using ha
        exact hp
    · repeat' first
        | refine k_then ?_ | refine c_seq ?_ | refine c_region ?_ | refine s_nil ?_ | refine s_move (by exact rfl) (by exact rfl) ?_ | refine s_assign (by exact rfl) (by exact rfl) ?_ | refine c_ret ?_ | refine k_then_ret ?_ | refine k_blk_ret ?_ | refine c_cond_t (by exact rfl) ?_
      have hfi : l.findIdx? p = some k := by
        rw [List.findIdx?_eq_some_iff_getElem]
        obtain ⟨h1, h2⟩ := List.getElem?_eq_some_iff.1 he
        refine ⟨h1, by rw [h2]; exact hp, fun j hj => ?_⟩
        rw [hq _ (List.mem_take_iff_getElem.2 ⟨j, by omega, rfl⟩)]
        simp
      refine ret1 [] rfl rfl rfl ⟨by rw [hfi], rfl⟩
  · rw [List.take_of_length_le (by omega)] at hq
    repeat' first
      | refine k_then ?_ | refine c_seq ?_ | refine c_region ?_ | refine s_nil ?_ | refine s_assign (by exact rfl) (by exact rfl) ?_ | refine s_lss (by exact rfl) (by exact rfl) (by exact rfl) ?_ | refine c_exit ?_ | refine c_ret ?_ | refine k_then_exit ?_ | refine k_blk_eq ?_ | (refine c_cond_p (by exact rfl) (fun h => ?_) (fun h => ?_) <;> try (exfalso; omega))
    refine ret1 [] rfl rfl rfl ⟨by rw [List.findIdx?_eq_none_iff.2 hq], rfl⟩
theorem containsFI_ok (v : Value) (l : List Int) (f : FuncId) (caps : List Value) (p : Int → Bool) (w : World) [FnTy Tryz.prog f] (hs : Shp v l.length) (hr : RO w No v (iV l))
    (hcl : ∀ (k : Nat) e, l[k]? = some e → ∀ w' S', Mod w No w' S' → Calls Tryz.prog f ([Value.int .i64 e] ++ caps).toArray w' (Post w' No (Just (.bool (p e))))) :
    Calls Tryz.prog 56 #[v, .func (.func f) #[] caps.toArray] w (Post w No (Just (.bool (l.any p)))) := by
  refine enter0 (vs := [_, _]) Tryz.func56 rfl Tryz.ntmps56 rfl ?_
  repeat' first
    | refine k_then ?_ | refine c_seq ?_ | refine c_region ?_ | refine s_nil ?_ | refine s_move (by exact rfl) (by exact rfl) ?_ | refine s_assign (by exact rfl) (by exact rfl) ?_
  refine s_call (by exact rfl) (by exact rfl) (fun w h => h.mod0.elim fun S' hm => indexFI_ok v l f caps p w hs (ro_old h hr) fun k e he w' S2 hm2 => hcl k e he w' _ (mod_trans0 hm hm2)) ?_
  repeat' first
    | refine k_then ?_ | refine s_nil ?_ | refine s_assign (by exact rfl) (by exact rfl) ?_ | refine s_geq (by exact rfl) (by exact rfl) (by exact rfl) ?_ | refine c_ret ?_
  refine ret1 [] rfl rfl rfl ⟨congrArg Value.bool ?_, rfl⟩
  cases h : l.findIdx? p with
  | none =>
    have := List.findIdx?_eq_none_iff.1 h
    rw [List.any_eq_false.2 (fun x hx => by rw [this x hx]; simp)]
    simp
  | some i =>
    obtain ⟨h1, h2, _⟩ := List.findIdx?_eq_some_iff_getElem.1 h
    rw [List.any_eq_true.2 ⟨_, List.getElem_mem h1, h2⟩]
    simp
theorem plane1_ok (x : Int) (w : World) : Calls Tryz.prog 61 #[.int .i64 x] w (Post w No (Just (.bool (decide (x ≠ 2))))) := by
  refine enter0 (vs := [_]) Tryz.func61 rfl Tryz.ntmps61 rfl ?_
  repeat' first
    | refine k_then ?_ | refine c_seq ?_ | refine c_region ?_ | refine s_nil ?_ | refine s_move (by exact rfl) (by exact rfl) ?_ | refine s_assign (by exact rfl) (by exact rfl) ?_ | refine s_neq (by exact rfl) (by exact rfl) (by exact rfl) ?_ | refine c_ret ?_
  refine ret1 [] rfl rfl rfl ⟨rfl, rfl⟩
theorem rotEulerL_ok (n : Int) (v : Value) (es : List E) (vr : Value) (hr0 : List Value) (R : List (List Nat)) (o lab : Nat → Nat) (w : World) (hs : Shp v es.length) (hr : RO w No v (esV es)) (hG : RightG n es) (hR : ROs w No vr hr0 R) (hRot : RotL n.toNat (tn es) R) (hL : Lev n.toNat (nb (tn es)) o lab) :
    Calls Tryz.prog 60 #[.agg #[.int .i64 n, v], vr] w (Post w No fun r L' => ∃ vo : Value, r = .tuple #[vo, .int .i64 0] ∧ L' = [rowHP vo 3 1 (eulerL n.toNat (tn es) lab (facesR n.toNat (tn es) R)).length (iV (eulerL n.toNat (tn es) lab (facesR n.toNat (tn es) R)))]) := by
  refine Calls.mono (rotEuler_ok n v es vr hr0 R w hs hr hG hR hRot) (Post.imp ?_)
  rintro r L' ⟨vo, o', lab', h1, h2, h3⟩
  refine ⟨vo, h2, ?_⟩
  rw [h3, lev_euler h1 hL, eulerL, List.length_map, lev_comps h1 hL]
theorem rotPlane_ok (n : Int) (v : Value) (es : List E) (vr : Value) (hr0 : List Value) (R : List (List Nat)) (o lab : Nat → Nat) (w : World) (hs : Shp v es.length) (hr : RO w No v (esV es)) (hG : RightG n es) (hR : ROs w No vr hr0 R) (hRot : RotL n.toNat (tn es) R) (hL : Lev n.toNat (nb (tn es)) o lab) :
    Calls Tryz.prog 32 #[.agg #[.int .i64 n, v], vr] w (Post w No (Just (.int .i64 (planeR n.toNat (tn es) lab R)))) := by
  have hsr := hR.shp
  have hrr := hR.ro
  refine enter0 (vs := [_, _]) Tryz.func32 rfl Tryz.ntmps32 rfl ?_
  repeat' first
    | refine k_then ?_ | refine c_seq ?_ | refine c_region ?_ | refine s_nil ?_ | refine s_move (by exact rfl) (by exact rfl) ?_ | refine s_assign (by exact rfl) (by exact rfl) ?_ | refine s_ldk_box (by exact rfl) (by exact rfl) (by exact .head _) (by exact rfl) (by exact rfl) ?_ | refine o_box (by exact rfl) (by exact rfl) (fun b => ?_)
  refine o_call (by exact rfl) (by exact rfl) (fun w h => rotEulerL_ok n v es vr hr0 R o lab w hs (ro_old h hr) hG (ros_old h hR) hRot hL) ?_
  rintro _ _ ⟨vo, rfl, rfl⟩
  refine know_row (v := vo) (.head _) fun hvo _ => ?_
  repeat' first
    | refine k_then ?_ | refine c_seq ?_ | refine c_region ?_ | refine s_nil ?_ | refine s_move (by exact rfl) (by exact rfl) ?_ | refine s_assign (by exact rfl) (by exact rfl) ?_ | refine s_neq (by exact rfl) (by exact rfl) (by exact rfl) ?_ | refine s_extract (by exact rfl) (by exact rfl) (by exact rfl) ?_ | refine c_block ?_ | (refine c_cond_p (by exact rfl) (fun h => ?_) (fun h => ?_) <;> try (exfalso; omega))
  refine s_call (by exact rfl) (by exact rfl) (fun w h => containsFI_ok vo (eulerL n.toNat (tn es) lab (facesR n.toNat (tn es) R)) 61 [] (fun x => decide (x ≠ 2)) w hvo (ro_own h (.head _)) fun k e _ w' S' hm => plane1_ok e w') ?_
  unfold planeR
  cases (eulerL n.toNat (tn es) lab (facesR n.toNat (tn es) R)).any fun x => decide (x ≠ 2) with
  | true =>
    repeat' first
      | refine k_then ?_ | refine c_seq ?_ | refine c_region ?_ | refine s_nil ?_ | refine s_assign (by exact rfl) (by exact rfl) ?_ | refine c_ret ?_ | refine k_then_ret ?_ | refine k_blk_ret ?_ | refine c_cond_t (by exact rfl) ?_
    refine ret1 [] rfl rfl rfl ⟨rfl, rfl⟩
  | false =>
    repeat' first
      | refine k_then ?_ | refine c_seq ?_ | refine c_region ?_ | refine s_nil ?_ | refine s_assign (by exact rfl) (by exact rfl) ?_ | refine c_skip ?_ | refine c_ret ?_ | refine k_blk ?_ | refine c_cond_f (by exact rfl) ?_
    refine ret1 [] rfl rfl rfl ⟨rfl, rfl⟩
theorem rotPlane_no (n : Int) (v : Value) (es : List E) (vr : Value) (hr0 : List Value) (ls : List (List Int)) (w : World) (hs : Shp v es.length) (hr : RO w No v (esV es)) (hm : es.length < 4611686018427387904) (hR : ROsI w No vr hr0 ls) (hlen : ∀ l ∈ ls, l.length ≤ 1048576) (hk : rotK n es ls ≠ 0) :
    Calls Tryz.prog 32 #[.agg #[.int .i64 n, v], vr] w (Post w No (Just (.int .i64 (rotK n es ls)))) := by
  have hsr := hR.shp
  have hrr := hR.ro
  refine enter0 (vs := [_, _]) Tryz.func32 rfl Tryz.ntmps32 rfl ?_
  repeat' first
    | refine k_then ?_ | refine c_seq ?_ | refine c_region ?_ | refine s_nil ?_ | refine s_move (by exact rfl) (by exact rfl) ?_ | refine s_assign (by exact rfl) (by exact rfl) ?_ | refine s_ldk_box (by exact rfl) (by exact rfl) (by exact .head _) (by exact rfl) (by exact rfl) ?_ | refine o_box (by exact rfl) (by exact rfl) (fun b => ?_)
  refine s_call (by exact rfl) (by exact rfl) (fun w h => rotEuler_no n v es vr hr0 ls w hs (ro_old h hr) hm (rosI_old h hR) hlen hk) ?_
  repeat' first
    | refine k_then ?_ | refine c_seq ?_ | refine c_region ?_ | refine s_nil ?_ | refine s_move (by exact rfl) (by exact rfl) ?_ | refine s_assign (by exact rfl) (by exact rfl) ?_ | refine s_neq (by exact rfl) (by exact rfl) (by exact rfl) ?_ | refine s_extract (by exact rfl) (by exact rfl) (by exact rfl) ?_ | refine c_block ?_ | refine c_ret ?_ | refine k_then_ret ?_ | refine k_blk_ret ?_ | (refine c_cond_p (by exact rfl) (fun h => ?_) (fun h => ?_) <;> try (exfalso; omega))
  refine ret1 [] rfl rfl rfl ⟨rfl, rfl⟩
end Go.Proofs.YtpajjnkmaebhcabGreat
end
section
set_option linter.unusedVariables false
namespace Fil
end Fil
end
section
set_option linter.unusedVariables false
set_option linter.unusedSimpArgs false
namespace Go.Sl
open Go Go.RowKit
section
variable {P : Program} {w0 : World} {S0 : FS} {n : Nat} {F : List (Nat × Value)} {L Lk : List HP} {o : Oper} {x y : Operand} {t e : TypeId} {a b : Int} {ops : Array Oper} {Q : Exit → Act → World → Prop} {d i : Nat} {ty : TypeId} {ps : String} {af : Array Edge} {plan : List PI}
end
end Go.Sl
end
section
set_option linter.unusedVariables false
namespace Go.Proofs
open Go Go.RowKit Go.Maps Go.Sl
end Go.Proofs
namespace Go.Proofs.YtpajjnkmaebhcabGreat
open Go Go.RowKit Go.Sl Fil
/-- what Plane answers, from here on -/
def PlaneIs (n : Int) (v vr : Value) (K : Int) (w : World) : Prop := ∀ w' S', Mod w No w' S' → Calls Tryz.prog 32 #[.agg #[.int .i64 n, v], vr] w' (Post w' No (Just (.int .i64 K)))
theorem PlaneIs.old {w0 w : World} {n : Int} {v vr : Value} {K : Int} {L : List HP} (h : PlaneIs n v vr K w0) (hs : St w0 No L w) : PlaneIs n v vr K w := hs.mod0.elim fun _ hm w' S' hm2 => h w' _ (mod_trans0 hm hm2)
theorem PlaneIs.here {w : World} {n : Int} {v vr : Value} {K : Int} (h : PlaneIs n v vr K w) : Calls Tryz.prog 32 #[.agg #[.int .i64 n, v], vr] w (Post w No (Just (.int .i64 K))) := h w _ (Mod.refl _ _)
set_option maxRecDepth 100000
set_option maxHeartbeats 8000000
set_option linter.unusedVariables false
set_option linter.unusedSimpArgs false
attribute [local irreducible] Code.wp wpList bodyPost wpQuiet Exit.then Exit.inBlock Post wpAnyH wpOp
end Go.Proofs.YtpajjnkmaebhcabGreat
end
section
set_option linter.unusedVariables false
namespace Fil
structure SetP (nb : Nat → List Nat) (N k : Nat) (o : Nat → Nat) (m : Nat) (l : List Nat) : Prop where
  asc : Asc l
  ind : Ind nb l fun _ => false
  lt : ∀ u ∈ l, u < N
  top : ∀ s, s < m → ∀ Z, Ind nb Z (fun _ => false) → (∀ u ∈ Z, u < N ∧ (keptL N k s o).getD u false = true) → Z.length ≤ l.length
theorem SetP.none (nb : Nat → List Nat) (N k : Nat) (o : Nat → Nat) : SetP nb N k o 0 [] := ⟨.nil, ⟨.nil, by simp, by simp⟩, by simp, fun s h => by omega⟩
theorem SetP.more {nb : Nat → List Nat} {N k m : Nat} {o : Nat → Nat} {l l' : List Nat} (h : SetP nb N k o m l) (ha : Asc l') (hM : MaxIn nb N (fun u => (keptL N k m o).getD u false) l') : SetP nb N k o (m + 1) (if l.length < l'.length then l' else l) := by
  split
  · rename_i hlt
    refine ⟨ha, hM.ind, fun u hu => (hM.mem u hu).1, fun s hs Z hZ hZ2 => ?_⟩
    by_cases e : s = m
    · subst e; exact hM.top Z hZ hZ2
    · have := h.top s (by omega) Z hZ hZ2; omega
  · rename_i hlt
    refine ⟨h.asc, h.ind, h.lt, fun s hs Z hZ hZ2 => ?_⟩
    by_cases e : s = m
    · subst e; have := hM.top Z hZ hZ2; omega
    · exact h.top s (by omega) Z hZ hZ2
end Fil
namespace Go.Proofs.YtpajjnkmaebhcabGreat
open Go Go.RowKit Go.Sl Fil
set_option maxRecDepth 100000
set_option maxHeartbeats 8000000
set_option linter.unusedVariables false
set_option linter.unusedSimpArgs false
attribute [local irreducible] Code.wp wpList bodyPost wpQuiet Exit.then Exit.inBlock Post wpAnyH wpOp
theorem Set_ok (n : Int) (v vr : Value) (es : List E) (k : Int) (o lab : Nat → Nat) (w : World) (hs : Shp v es.length) (hr : RO w No v (esV es)) (hR : RightG n es) (hLev : Lev n.toNat (nb (tn es)) o lab) (hP : PlaneIs n v vr 0 w) (hk : 1 ≤ k ∧ k ≤ 8) (h39 : n ≤ 39) :
    Calls Tryz.prog 25 #[.agg #[.int .i64 n, v], vr, .int .i64 k] w (Post w No fun r L' => ∃ (vo : Value) (l : List Nat), r = .tuple #[vo, .int .i64 0] ∧ L' = [rowHP vo 3 1 l.length (nV l)] ∧ SetP (nearS (tn es)) n.toNat k.toNat o (k.toNat + 1) l) := by
  have hhi := hR.hi
  refine enter0 (vs := [_, _, _]) Tryz.func25 rfl Tryz.ntmps25 rfl ?_
  repeat' first
    | refine k_then ?_ | refine c_seq ?_ | refine c_region ?_ | refine s_nil ?_ | refine s_move (by exact rfl) (by exact rfl) ?_ | refine s_assign (by exact rfl) (by exact rfl) ?_ | refine s_ldk_box (by exact rfl) (by exact rfl) (by exact .head _) (by exact rfl) (by exact rfl) ?_ | refine o_box (by exact rfl) (by exact rfl) (fun b => ?_) | fail
  revert b; intro bg
  refine s_call (vs := [.agg #[.int .i64 n, v], vr]) (by exact rfl) (by exact rfl) (fun w h => (hP.old h).here) ?_
  repeat' first
    | refine k_then ?_ | refine c_seq ?_ | refine c_region ?_ | refine s_nil ?_ | refine s_move (by exact rfl) (by exact rfl) ?_ | refine s_assign (by exact rfl) (by exact rfl) ?_ | refine s_lss (by exact rfl) (by exact rfl) (by exact rfl) ?_ | refine s_neq (by exact rfl) (by exact rfl) (by exact rfl) ?_ | refine s_add (by exact rfl) (by exact rfl) (by exact rfl) (by omega) ?_ | refine s_pick_f (by exact rfl) (by exact rfl) (by exact rfl) ?_ | refine c_block ?_ | refine c_skip ?_ | (refine c_cond_p (by exact rfl) (fun h => ?_) (fun h => ?_) <;> try (exfalso; omega)) | (refine g_case (by exact rfl) (by exact rfl) (fun h => ?_) (fun h => ?_) <;> try (exfalso; omega)) | refine w_move (by exact rfl) (by exact rfl) (by exact rfl) (by exact rfl) ?_ | refine w_gtr (by exact rfl) (by exact rfl) (by exact rfl) (by exact rfl) (by exact rfl) ?_ | fail
  refine c_nil 3 1 ?_
  refine c_loop (fun x : Nat × Value × List Nat => (x.1 : Int) ≤ k + 1 ∧ SetP (nearS (tn es)) n.toNat k.toNat o x.1 x.2.2) (fun x => [(2, .int .i64 k), (3, .pointer (some ⟨bg, 0, none⟩)), (6, x.2.1), (7, .int .i64 0), (25, .int .i64 (k + 1)), (26, .int .i64 (x.1 : Int))])
    (fun x => [rowHP x.2.1 3 1 x.2.2.length (nV x.2.2), boxHP bg 24 [.int .i64 n, v]]) (fun x => k.toNat + 1 - x.1) (0, .slice none 0 0, []) [0, 0] ⟨by dsimp only; omega, SetP.none _ _ _ _⟩ (by exact rfl) ⟨rfl, rfl, rfl, rfl, rfl, rfl, trivial⟩ ?_
  rintro ⟨s, vo, l⟩ ⟨hs1, hl⟩
  dsimp only at hs1 hl ⊢
  refine know_row (v := vo) (.head _) fun hvo _ => ?_
  by_cases hsk : (s : Int) ≤ k
  · repeat' first
      | refine k_then ?_ | refine c_seq ?_ | refine c_region ?_ | refine s_nil ?_ | refine s_move (by exact rfl) (by exact rfl) ?_ | refine s_assign (by exact rfl) (by exact rfl) ?_ | refine s_lss (by exact rfl) (by exact rfl) (by exact rfl) ?_ | refine s_ldk_box (by exact rfl) (by exact rfl) (by exact .tail _ (.head _)) (by exact rfl) (by exact rfl) ?_ | refine c_block ?_ | refine c_skip ?_ | (refine c_cond_p (by exact rfl) (fun h => ?_) (fun h => ?_) <;> try (exfalso; omega)) | fail
    refine o_call (vs := [.agg #[.int .i64 n, v], .int .i64 k, .int .i64 (s : Int)]) (by exact rfl) (by exact rfl) (fun w h => Shift_ok n v es k (s : Int) o lab w hs (ro_old h hr) hR hLev ⟨hk.1, hk.2, by omega, hsk⟩ h39) ?_
    rintro _ _ ⟨v2, l2, rfl, rfl, ha2, hM2⟩
    rw [Int.toNat_natCast] at hM2
    refine know_row (v := v2) (.head _) fun hv2 _ => ?_
    have hmore := hl.more ha2 hM2
    repeat' first
      | refine k_then ?_ | refine c_seq ?_ | refine c_region ?_ | refine s_nil ?_ | refine s_move (by exact rfl) (by exact rfl) ?_ | refine s_assign (by exact rfl) (by exact rfl) ?_ | refine s_gtr (by exact rfl) (by exact rfl) (by exact rfl) ?_ | refine s_add (by exact rfl) (by exact rfl) (by exact rfl) (by omega) ?_ | refine s_len (by exact rfl) (by exact rfl) (by assumption) ?_ | refine s_extract (by exact rfl) (by exact rfl) (by exact rfl) ?_ | refine c_skip ?_ | refine k_blk ?_ | (refine c_cond_p (by exact rfl) (fun h => ?_) (fun h => ?_) <;> try (exfalso; omega)) | fail
    · rw [if_pos (by omega)] at hmore
      refine c_round (s + 1, v2, l2) [0, 1] (by exact rfl) ⟨rfl, rfl, rfl, rfl, rfl, rfl, trivial⟩ ⟨by dsimp only; omega, hmore⟩ (by dsimp only; omega)
    · rw [if_neg (by omega)] at hmore
      refine c_round (s + 1, vo, l) [1, 1] (by exact rfl) ⟨rfl, rfl, rfl, rfl, rfl, rfl, trivial⟩ ⟨by dsimp only; omega, hmore⟩ (by dsimp only; omega)
  · repeat' first
      | refine k_then ?_ | refine c_seq ?_ | refine c_region ?_ | refine s_nil ?_ | refine s_move (by exact rfl) (by exact rfl) ?_ | refine s_assign (by exact rfl) (by exact rfl) ?_ | refine s_lss (by exact rfl) (by exact rfl) (by exact rfl) ?_ | refine c_exit ?_ | refine c_ret ?_ | refine k_then_exit ?_ | refine k_blk_eq ?_ | (refine c_cond_p (by exact rfl) (fun h => ?_) (fun h => ?_) <;> try (exfalso; omega)) | fail
    obtain rfl : s = k.toNat + 1 := by omega
    refine retL [.tmp 6, .tmp 7] [vo, .int .i64 0] [0] rfl ⟨res_tmp rfl, res_tmp rfl, trivial⟩ (by exact rfl) ⟨vo, l, rfl, rfl, hl⟩
theorem Set_no (n : Int) (v vr : Value) (k K : Int) (w : World) (hP : PlaneIs n v vr K w) (hK : K ≠ 0 ∨ k < 1 ∨ 8 < k) :
    Calls Tryz.prog 25 #[.agg #[.int .i64 n, v], vr, .int .i64 k] w (Post w No (Just (.tuple #[.slice none 0 0, .int .i64 (if K = 0 then 11 else K)]))) := by
  refine enter0 (vs := [_, _, _]) Tryz.func25 rfl Tryz.ntmps25 rfl ?_
  repeat' first
    | refine k_then ?_ | refine c_seq ?_ | refine c_region ?_ | refine s_nil ?_ | refine s_move (by exact rfl) (by exact rfl) ?_ | refine s_assign (by exact rfl) (by exact rfl) ?_ | refine s_ldk_box (by exact rfl) (by exact rfl) (by exact .head _) (by exact rfl) (by exact rfl) ?_ | refine o_box (by exact rfl) (by exact rfl) (fun b => ?_) | fail
  refine s_call (vs := [.agg #[.int .i64 n, v], vr]) (by exact rfl) (by exact rfl) (fun w h => (hP.old h).here) ?_
  by_cases h0 : K = 0
  · rw [if_pos h0]
    subst h0
    repeat' first
      | refine k_then ?_ | refine c_seq ?_ | refine c_region ?_ | refine s_nil ?_ | refine s_move (by exact rfl) (by exact rfl) ?_ | refine s_assign (by exact rfl) (by exact rfl) ?_ | refine s_lss (by exact rfl) (by exact rfl) (by exact rfl) ?_ | refine s_neq (by exact rfl) (by exact rfl) (by exact rfl) ?_ | refine s_pick_t (by exact rfl) (by exact rfl) (by exact rfl) ?_ | refine s_pick_f (by exact rfl) (by exact rfl) (by exact rfl) ?_ | refine c_skip ?_ | refine c_ret ?_ | refine k_then_ret ?_ | (refine c_cond_p (by exact rfl) (fun h => ?_) (fun h => ?_) <;> try (exfalso; omega)) | refine c_cond_t (by exact rfl) ?_ | (refine g_case (by exact rfl) (by exact rfl) (fun h => ?_) (fun h => ?_) <;> try (exfalso; omega)) | refine g_skip (by exact rfl) (by exact rfl) (by exact rfl) (by exact rfl) ?_ | refine w_move (by exact rfl) (by exact rfl) (by exact rfl) (by exact rfl) ?_ | refine w_gtr (by exact rfl) (by exact rfl) (by exact rfl) (by exact rfl) (by exact rfl) ?_ | fail
    all_goals refine retL [.tmp 6, .tmp 7] [.slice none 0 0, .int .i64 11] [] rfl ⟨res_tmp rfl, res_tmp rfl, trivial⟩ (by exact rfl) ⟨rfl, rfl⟩
  · rw [if_neg h0]
    repeat' first
      | refine k_then ?_ | refine c_seq ?_ | refine c_region ?_ | refine s_nil ?_ | refine s_move (by exact rfl) (by exact rfl) ?_ | refine s_assign (by exact rfl) (by exact rfl) ?_ | refine s_neq (by exact rfl) (by exact rfl) (by exact rfl) ?_ | refine c_ret ?_ | refine k_then_ret ?_ | (refine c_cond_p (by exact rfl) (fun h => ?_) (fun h => ?_) <;> try (exfalso; omega)) | fail
    refine retL [.tmp 6, .tmp 7] [.slice none 0 0, .int .i64 K] [] rfl ⟨res_tmp rfl, res_tmp rfl, trivial⟩ (by exact rfl) ⟨rfl, rfl⟩
end Go.Proofs.YtpajjnkmaebhcabGreat
end
section
namespace Fil
def okIn (n : Int) (l : List Int) : Prop := (∀ x ∈ l, 0 ≤ x ∧ x < n) ∧ l.Pairwise fun a b => a < b
def indP (es : List E) (l : List Int) : Prop := ∀ e ∈ es, ¬ (e.1 ∈ l ∧ e.2.1 ∈ l)
instance (n : Int) (l : List Int) : Decidable (okIn n l) := by unfold okIn; infer_instance
instance (es : List E) (l : List Int) : Decidable (indP es l) := by unfold indP; infer_instance
def indK (n : Int) (es : List E) (l : List Int) : Int := if rightK n es = 0 then (if okIn n l ∧ indP es l then 0 else 13) else 1
theorem okIn_next {n : Int} {l : List Int} {k : Nat} {x : Int} (h : okIn n (l.take k)) (hx : l[k]? = some x) (h0 : 0 ≤ x) (h1 : x < n) (hp : ∀ j y, k = j + 1 → l[j]? = some y → y < x) : okIn n (l.take (k + 1)) := by
  rw [List.take_add_one, hx]
  refine ⟨fun y hy => ?_, List.pairwise_append.2 ⟨h.2, by simp, fun a ha b hb => ?_⟩⟩
  · rcases List.mem_append.1 hy with hy | hy
    · exact h.1 y hy
    · obtain rfl : y = x := by simpa using hy
      exact ⟨h0, h1⟩
  · obtain rfl : b = x := by simpa using hb
    cases k with
    | zero => simp at ha
    | succ j =>
      have hkl := (List.getElem?_eq_some_iff.1 hx).1
      obtain ⟨y, hy⟩ : ∃ y, l[j]? = some y := ⟨_, List.getElem?_eq_getElem (by omega)⟩
      have hyx := hp j y rfl hy
      rw [List.take_add_one, hy] at ha
      rcases List.mem_append.1 ha with ha | ha
      · have h2 := h.2
        rw [List.take_add_one, hy] at h2
        have := (List.pairwise_append.1 h2).2.2 a ha y (by simp)
        omega
      · obtain rfl : a = y := by simpa using ha
        exact hyx
theorem okIn_out {n : Int} {l : List Int} {k : Nat} {x : Int} (hx : l[k]? = some x) (h : x < 0 ∨ n ≤ x) : ¬ okIn n l := fun ho => by
  have := ho.1 x (List.mem_of_getElem? hx)
  omega
theorem okIn_low {n : Int} {l : List Int} {k : Nat} {x y : Int} (hy : l[k]? = some y) (hx : l[k + 1]? = some x) (h : x ≤ y) : ¬ okIn n l := fun ho => by
  obtain ⟨h1, h2⟩ := List.getElem?_eq_some_iff.1 hx
  obtain ⟨h3, h4⟩ := List.getElem?_eq_some_iff.1 hy
  have := List.pairwise_iff_getElem.1 ho.2 k (k + 1) h3 h1 (by omega)
  omega
end Fil
namespace Go.Proofs.YtpajjnkmaebhcabGreat
open Go.RowKit Go.Sl Fil
set_option maxRecDepth 100000
set_option maxHeartbeats 8000000
set_option linter.unusedVariables false
set_option linter.unusedSimpArgs false
attribute [local irreducible] Code.wp wpList bodyPost wpQuiet Exit.then Exit.inBlock Post wpAnyH wpOp
theorem refCheck_ok (n : Int) (v vi : Value) (es : List E) (l : List Int) (w : World) (hs : Shp v es.length) (hr : RO w No v (esV es)) (hm : es.length < 4611686018427387904) (hs2 : Shp vi l.length) (hr2 : RO w No vi (iV l)) :
    Calls Tryz.prog 22 #[.agg #[.int .i64 n, v], vi] w (Post w No (Just (.int .i64 (indK n es l)))) := by
  have hlm := hs2.1
  simp only [maxLen] at hlm
  refine enter0 (vs := [_, _]) Tryz.func22 rfl Tryz.ntmps22 rfl ?_
  repeat' first
    | refine k_then ?_ | refine c_seq ?_ | refine c_region ?_ | refine s_nil ?_ | refine s_assign (by exact rfl) (by exact rfl) ?_ | refine s_ldk_box (by exact rfl) (by exact rfl) (by exact .head _) (by exact rfl) (by exact rfl) ?_ | refine o_box (by exact rfl) (by exact rfl) (fun b => ?_)
  refine s_call (by exact rfl) (by exact rfl) (fun w h => refRight_ok n v es w hs (ro_old h hr) hm) ?_
  by_cases hR : rightK n es = 0
  · have hi : indK n es l = if okIn n l ∧ indP es l then 0 else 13 := by rw [indK, if_pos hR]
    rw [hR]
    repeat' first
      | refine k_then ?_ | refine c_seq ?_ | refine c_region ?_ | refine s_nil ?_ | refine s_assign (by exact rfl) (by exact rfl) ?_ | refine s_neq (by exact rfl) (by exact rfl) (by exact rfl) ?_ | refine c_block ?_ | refine c_skip ?_ | (refine c_cond_p (by exact rfl) (fun h => ?_) (fun h => ?_) <;> try (exfalso; omega))
    refine c_loop (fun k : Nat => k ≤ l.length ∧ okIn n (l.take k)) (fun k => [(1, vi), (2, .pointer (some ⟨b, 0, none⟩)), (5, .int .i64 (k : Int))]) (fun _ => [boxHP b 24 [.int .i64 n, v]]) (fun k => l.length - k) 0 [0] ⟨by omega, by simp [okIn]⟩ rfl ⟨rfl, rfl, rfl, trivial⟩ ?_
    rintro k ⟨hk, hq⟩
    by_cases hlt : k < l.length
    · obtain ⟨x, hx⟩ : ∃ x, l[k]? = some x := ⟨_, List.getElem?_eq_getElem hlt⟩
      have hcx : (iV l)[k * 1]? = some (.int .i64 x) := by simp [iV, hx]
      by_cases hk0 : k = 0
      · subst hk0
        repeat' first
          | refine k_then ?_ | refine c_seq ?_ | refine c_region ?_ | refine s_nil ?_ | refine s_move (by exact rfl) (by exact rfl) ?_ | refine s_lss (by exact rfl) (by exact rfl) (by exact rfl) ?_ | refine s_len (by exact rfl) (by exact rfl) (by assumption) ?_ | refine c_block ?_ | refine c_skip ?_ | (refine c_cond_p (by exact rfl) (fun h => ?_) (fun h => ?_) <;> try (exfalso; omega))
        refine p_begin0 [(0, true), (1, true), (2, true), (3, true), (4, true), (5, true), (6, true), (7, true), (8, true), (9, true), (10, true), (11, true), (12, true), (13, true), (14, true), (15, true), (16, true), (17, true), (18, true), (19, true), (20, true), (21, true), (22, true), (23, true), (24, true), (25, true), (26, true), (27, true), (28, true), (29, true)] (by kernel_rfl) ?_
        repeat' first
          | refine p_nil ?_
          | (refine p_at (by exact rfl) ?_
             first
              | refine t_move (by exact rfl) (by exact rfl) (by exact fun _ h => h) ?_ | refine t_lss (by exact rfl) (by exact rfl) (by exact rfl) (by exact fun _ h => h) ?_ | refine t_idx (by exact rfl) (by exact rfl) (by exact rfl) (by assumption) (by first | assumption | omega) (by exact fun _ h => h) ?_ | refine t_pick_t (by exact rfl) (by exact rfl) (by exact rfl) (by exact fun _ h => h) ?_ | refine t_pick_f (by exact rfl) (by exact rfl) (by exact rfl) (by exact fun _ h => h) ?_ | refine t_ld_ro (by exact rfl) (by exact rfl) (by assumption) (by assumption) (by exact fun _ h => h) ?_ | refine tw_move (by exact rfl) (by exact rfl) (by exact rfl) (by exact rfl) (by exact fun _ h => h) ?_ | refine tw_fa (by exact rfl) (by exact rfl) (by exact rfl) (by exact rfl) (by exact fun _ h => h) ?_ | refine tw_ld_box (by exact rfl) (by exact rfl) (by exact rfl) (by exact rfl) (by exact .head _) (by exact rfl) (by exact fun _ h => h) ?_ | refine tw_gtr (by exact rfl) (by exact rfl) (by exact rfl) (by exact rfl) (by exact rfl) (by exact fun _ h => h) ?_ | refine tw_geq (by exact rfl) (by exact rfl) (by exact rfl) (by exact rfl) (by exact rfl) (by exact fun _ h => h) ?_ | refine tw_idx (by exact rfl) (by exact rfl) (by exact rfl) (by exact rfl) (by exact rfl) (by assumption) (by first | assumption | omega) (by exact fun _ h => h) ?_ | refine tw_pick_f (by exact rfl) (by exact rfl) (by exact rfl) (by exact rfl) (by exact rfl) (by exact fun _ h => h) ?_ | refine tw_ld_ro (by exact rfl) (by exact rfl) (by exact rfl) (by exact rfl) (by assumption) (by assumption) (by exact fun _ h => h) ?_ | (refine t_case (by exact rfl) (by exact rfl) (fun h => ?_) (fun h => ?_) <;> try (exfalso; omega)) | refine t_skip (by exact rfl) (by exact rfl) (by exact rfl) (by exact rfl) (by exact fun _ h => h) ?_)
        all_goals
          repeat' first
            | refine k_then ?_ | refine c_seq ?_ | refine c_region ?_ | refine s_nil ?_ | refine s_move (by exact rfl) (by exact rfl) ?_ | refine s_assign (by exact rfl) (by exact rfl) ?_ | refine s_add (by exact rfl) (by exact rfl) (by exact rfl) (by omega) ?_ | refine c_skip ?_ | refine c_ret ?_ | refine k_then_ret ?_ | refine k_blk ?_ | refine k_blk_ret ?_ | refine c_cond_t (by exact rfl) ?_ | refine c_cond_f (by exact rfl) ?_
        all_goals first
          | refine ret1 [] rfl rfl rfl ⟨by rw [hi, if_neg (fun h => okIn_out hx (by omega) h.1)], rfl⟩ | refine c_round 1 [0] (by exact rfl) (by exact ⟨rfl, rfl, rfl, trivial⟩) ⟨by omega, okIn_next hq hx (by omega) (by omega) (fun j y e _ => by omega)⟩ (by omega)
      · obtain ⟨y, hy⟩ : ∃ y, l[k - 1]? = some y := ⟨_, List.getElem?_eq_getElem (by omega)⟩
        have hcy : (iV l)[((k : Int) - 1).toNat * 1]? = some (.int .i64 y) := by
          rw [show ((k : Int) - 1).toNat * 1 = k - 1 by omega]; simp [iV, hy]
        have hx' : l[(k - 1) + 1]? = some x := by rw [show k - 1 + 1 = k by omega]; exact hx
        repeat' first
          | refine k_then ?_ | refine c_seq ?_ | refine c_region ?_ | refine s_nil ?_ | refine s_move (by exact rfl) (by exact rfl) ?_ | refine s_lss (by exact rfl) (by exact rfl) (by exact rfl) ?_ | refine s_len (by exact rfl) (by exact rfl) (by assumption) ?_ | refine c_block ?_ | refine c_skip ?_ | (refine c_cond_p (by exact rfl) (fun h => ?_) (fun h => ?_) <;> try (exfalso; omega))
        refine p_begin0 [(0, true), (1, true), (2, true), (3, true), (4, true), (5, true), (6, true), (7, true), (8, true), (9, true), (10, true), (11, true), (12, true), (13, true), (14, true), (15, true), (16, true), (17, true), (18, true), (19, true), (20, true), (21, true), (22, true), (23, true), (24, true), (25, true), (26, true), (27, true), (28, true), (29, true)] (by kernel_rfl) ?_
        repeat' first
          | refine p_nil ?_
          | (refine p_at (by exact rfl) ?_
             first
              | refine t_move (by exact rfl) (by exact rfl) (by exact fun _ h => h) ?_ | refine t_lss (by exact rfl) (by exact rfl) (by exact rfl) (by exact fun _ h => h) ?_ | refine t_idx (by exact rfl) (by exact rfl) (by exact rfl) (by assumption) (by first | assumption | omega) (by exact fun _ h => h) ?_ | refine t_pick_t (by exact rfl) (by exact rfl) (by exact rfl) (by exact fun _ h => h) ?_ | refine t_pick_f (by exact rfl) (by exact rfl) (by exact rfl) (by exact fun _ h => h) ?_ | refine t_ld_ro (by exact rfl) (by exact rfl) (by assumption) (by assumption) (by exact fun _ h => h) ?_ | refine tw_move (by exact rfl) (by exact rfl) (by exact rfl) (by exact rfl) (by exact fun _ h => h) ?_ | refine tw_fa (by exact rfl) (by exact rfl) (by exact rfl) (by exact rfl) (by exact fun _ h => h) ?_ | refine tw_ld_box (by exact rfl) (by exact rfl) (by exact rfl) (by exact rfl) (by exact .head _) (by exact rfl) (by exact fun _ h => h) ?_ | refine tw_gtr (by exact rfl) (by exact rfl) (by exact rfl) (by exact rfl) (by exact rfl) (by exact fun _ h => h) ?_ | refine tw_geq (by exact rfl) (by exact rfl) (by exact rfl) (by exact rfl) (by exact rfl) (by exact fun _ h => h) ?_ | refine tw_sub (by exact rfl) (by exact rfl) (by exact rfl) (by exact rfl) (by exact rfl) (by omega) (by exact fun _ h => h) ?_ | refine tw_idx (by exact rfl) (by exact rfl) (by exact rfl) (by exact rfl) (by exact rfl) (by assumption) (by first | assumption | omega) (by exact fun _ h => h) ?_ | refine tw_idxi (by exact rfl) (by exact rfl) (by exact rfl) (by exact rfl) (by exact rfl) (by assumption) (by first | assumption | omega) (by exact fun _ h => h) ?_ | refine tw_pick_t (by exact rfl) (by exact rfl) (by exact rfl) (by exact rfl) (by exact rfl) (by exact fun _ h => h) ?_ | refine tw_ld_ro (by exact rfl) (by exact rfl) (by exact rfl) (by exact rfl) (by assumption) (by assumption) (by exact fun _ h => h) ?_ | (refine t_case (by exact rfl) (by exact rfl) (fun h => ?_) (fun h => ?_) <;> try (exfalso; omega)) | refine t_skip (by exact rfl) (by exact rfl) (by exact rfl) (by exact rfl) (by exact fun _ h => h) ?_)
        all_goals
          repeat' first
            | refine k_then ?_ | refine c_seq ?_ | refine c_region ?_ | refine s_nil ?_ | refine s_move (by exact rfl) (by exact rfl) ?_ | refine s_assign (by exact rfl) (by exact rfl) ?_ | refine s_add (by exact rfl) (by exact rfl) (by exact rfl) (by omega) ?_ | refine c_skip ?_ | refine c_ret ?_ | refine k_then_ret ?_ | refine k_blk ?_ | refine k_blk_ret ?_ | (refine c_cond_p (by exact rfl) (fun h => ?_) (fun h => ?_) <;> try (exfalso; omega)) | refine c_cond_t (by exact rfl) ?_
        all_goals first
          | refine ret1 [] rfl rfl rfl ⟨by rw [hi, if_neg (fun h => okIn_out hx (by omega) h.1)], rfl⟩ | refine ret1 [] rfl rfl rfl ⟨by rw [hi, if_neg (fun h => okIn_low hy hx' (by omega) h.1)], rfl⟩
          | refine c_round (k + 1) [0] (by exact rfl) (by exact ⟨rfl, rfl, rfl, trivial⟩) ⟨by omega, okIn_next hq hx (by omega) (by omega) (fun j z e hz => by
              obtain rfl : j = k - 1 := by omega
              rw [hy] at hz
              obtain rfl : y = z := by simpa using hz
              omega)⟩ (by omega)
    · rw [List.take_of_length_le (by omega)] at hq
      repeat' first
        | refine k_then ?_ | refine c_seq ?_ | refine c_region ?_ | refine s_nil ?_ | refine s_move (by exact rfl) (by exact rfl) ?_ | refine s_assign (by exact rfl) (by exact rfl) ?_ | refine s_lss (by exact rfl) (by exact rfl) (by exact rfl) ?_ | refine s_len (by exact rfl) (by exact rfl) (by assumption) ?_ | refine c_block ?_ | refine c_exit ?_ | refine k_then_exit ?_ | refine k_blk_eq ?_ | (refine c_cond_p (by exact rfl) (fun h => ?_) (fun h => ?_) <;> try (exfalso; omega))
      refine c_loop (fun k : Nat => k ≤ es.length ∧ indP (es.take k) l) (fun k => [(1, vi), (2, .pointer (some ⟨b, 0, none⟩)), (6, .int .i64 (k : Int))]) (fun _ => [boxHP b 24 [.int .i64 n, v]]) (fun k => es.length - k) 0 [0] ⟨by omega, by simp [indP]⟩ (by exact rfl) ⟨rfl, rfl, rfl, trivial⟩ ?_
      rintro j ⟨hj, hp⟩
      by_cases hlt2 : j < es.length
      · obtain ⟨e, he⟩ : ∃ e, es[j]? = some e := ⟨_, List.getElem?_eq_getElem hlt2⟩
        obtain ⟨hE0, hE1, hE2⟩ := esV_get he
        repeat' first
          | refine k_then ?_ | refine c_seq ?_ | refine c_region ?_ | refine s_nil ?_ | refine s_move (by exact rfl) (by exact rfl) ?_ | refine s_fa (by exact rfl) (by exact rfl) ?_ | refine s_ld_box (by exact rfl) (by exact rfl) (by exact .head _) (by exact rfl) ?_ | refine s_lss (by exact rfl) (by exact rfl) (by exact rfl) ?_ | refine s_len (by exact rfl) (by exact rfl) (by assumption) ?_ | refine s_idx (by exact rfl) (by exact rfl) (by exact rfl) (by assumption) (by first | assumption | omega) ?_ | refine s_fap (by exact rfl) (by exact rfl) (by assumption) (by omega) ?_ | refine s_ld_ro (by exact rfl) (by exact rfl) (by assumption) (by assumption) ?_ | refine c_block ?_ | refine c_skip ?_ | (refine c_cond_p (by exact rfl) (fun h => ?_) (fun h => ?_) <;> try (exfalso; omega))
        refine s_call (by exact rfl) (by exact rfl) (fun w h => Has_ok vi l e.1 w hs2 (ro_old h hr2)) ?_
        by_cases h1 : e.1 ∈ l
        · rw [decide_eq_true h1]
          repeat' first
            | refine s_move (by exact rfl) (by exact rfl) ?_ | refine w_move (by exact rfl) (by exact rfl) (by exact rfl) (by exact rfl) ?_ | refine w_fa (by exact rfl) (by exact rfl) (by exact rfl) (by exact rfl) ?_ | refine w_ld_box (by exact rfl) (by exact rfl) (by exact rfl) (by exact rfl) (by exact .head _) (by exact rfl) ?_ | refine w_idx (by exact rfl) (by exact rfl) (by exact rfl) (by exact rfl) (by exact rfl) (by assumption) (by first | assumption | omega) ?_ | refine w_fap (by exact rfl) (by exact rfl) (by exact rfl) (by exact rfl) (by assumption) (by omega) ?_ | refine w_ld_ro (by exact rfl) (by exact rfl) (by exact rfl) (by exact rfl) (by assumption) (by assumption) ?_ | refine g_on (by exact rfl) (by exact rfl) ?_
          refine s_call (by exact rfl) (by exact rfl) (fun w h => Has_ok vi l e.2.1 w hs2 (ro_old h hr2)) ?_
          by_cases h2 : e.2.1 ∈ l
          · rw [decide_eq_true h2]
            repeat' first
              | refine k_then ?_ | refine c_seq ?_ | refine c_region ?_ | refine s_nil ?_ | refine s_assign (by exact rfl) (by exact rfl) ?_ | refine s_pick_t (by exact rfl) (by exact rfl) (by exact rfl) ?_ | refine c_ret ?_ | refine k_then_ret ?_ | refine k_blk_ret ?_ | refine c_cond_t (by exact rfl) ?_
            refine ret1 [] rfl rfl rfl ⟨by rw [hi, if_neg (fun h => h.2 e (List.mem_of_getElem? he) ⟨h1, h2⟩)], rfl⟩
          · rw [decide_eq_false h2]
            repeat' first
              | refine k_then ?_ | refine c_region ?_ | refine s_nil ?_ | refine s_move (by exact rfl) (by exact rfl) ?_ | refine s_assign (by exact rfl) (by exact rfl) ?_ | refine s_add (by exact rfl) (by exact rfl) (by exact rfl) (by omega) ?_ | refine s_pick_t (by exact rfl) (by exact rfl) (by exact rfl) ?_ | refine c_skip ?_ | refine k_blk ?_ | refine c_cond_f (by exact rfl) ?_
            refine c_round (j + 1) [0] (by exact rfl) (by exact ⟨rfl, rfl, rfl, trivial⟩) ⟨by omega, ?_⟩ (by omega)
            rw [List.take_add_one, he]
            intro a ha
            rcases List.mem_append.1 ha with ha | ha
            · exact hp a ha
            · obtain rfl : a = e := by simpa using ha
              exact fun h => h2 h.2
        · rw [decide_eq_false h1]
          repeat' first
            | refine k_then ?_ | refine c_region ?_ | refine s_nil ?_ | refine s_move (by exact rfl) (by exact rfl) ?_ | refine s_assign (by exact rfl) (by exact rfl) ?_ | refine s_add (by exact rfl) (by exact rfl) (by exact rfl) (by omega) ?_ | refine s_pick_f (by exact rfl) (by exact rfl) (by exact rfl) ?_ | refine c_skip ?_ | refine k_blk ?_ | refine c_cond_f (by exact rfl) ?_ | refine g_skip (by exact rfl) (by exact rfl) (by exact rfl) (by exact rfl) ?_
          refine c_round (j + 1) [0] (by exact rfl) (by exact ⟨rfl, rfl, rfl, trivial⟩) ⟨by omega, ?_⟩ (by omega)
          rw [List.take_add_one, he]
          intro a ha
          rcases List.mem_append.1 ha with ha | ha
          · exact hp a ha
          · obtain rfl : a = e := by simpa using ha
            exact fun h => h1 h.1
      · rw [List.take_of_length_le (by omega)] at hp
        repeat' first
          | refine k_then ?_ | refine c_seq ?_ | refine c_region ?_ | refine s_nil ?_ | refine s_move (by exact rfl) (by exact rfl) ?_ | refine s_assign (by exact rfl) (by exact rfl) ?_ | refine s_fa (by exact rfl) (by exact rfl) ?_ | refine s_ld_box (by exact rfl) (by exact rfl) (by exact .head _) (by exact rfl) ?_ | refine s_lss (by exact rfl) (by exact rfl) (by exact rfl) ?_ | refine s_len (by exact rfl) (by exact rfl) (by assumption) ?_ | refine c_exit ?_ | refine c_ret ?_ | refine k_then_exit ?_ | refine k_blk_eq ?_ | (refine c_cond_p (by exact rfl) (fun h => ?_) (fun h => ?_) <;> try (exfalso; omega))
        refine ret1 [] rfl rfl rfl ⟨by rw [hi, if_pos ⟨hq, hp⟩], rfl⟩
  · repeat' first
      | refine k_then ?_ | refine c_seq ?_ | refine c_region ?_ | refine s_nil ?_ | refine s_assign (by exact rfl) (by exact rfl) ?_ | refine s_neq (by exact rfl) (by exact rfl) (by exact rfl) ?_ | refine c_ret ?_ | refine k_then_ret ?_ | (refine c_cond_p (by exact rfl) (fun h => ?_) (fun h => ?_) <;> try (exfalso; omega))
    refine ret1 [] rfl rfl rfl ⟨by rw [indK, if_neg hR], rfl⟩
end Go.Proofs.YtpajjnkmaebhcabGreat
end
section
namespace Fil
open Go.Sl
/-- the numbers that were met, as entries -/
def metM (l : List Int) : List (Int × Bool) := l.map fun z => (z, true)
theorem metM_fst (l : List Int) : (metM l).map Prod.fst = l := by simp [metM, Function.comp_def]
theorem metM_put {l : List Int} {x : Int} (h : x ∉ l) : putK (metM l) x true = metM (l ++ [x]) := by
  rw [putK, metM_fst, if_neg h]; simp [metM]
theorem metM_get (l : List Int) (x : Int) : (getK (metM l) x).getD false = decide (x ∈ l) := by
  by_cases h : x ∈ l
  · rw [decide_eq_true h]
    cases hg : getK (metM l) x with
    | none =>
      rw [getK, Option.map_eq_none_iff, List.find?_eq_none] at hg
      exact (hg (x, true) (List.mem_map.2 ⟨x, h, rfl⟩) (by simp)).elim
    | some b =>
      rw [getK, Option.map_eq_some_iff] at hg
      obtain ⟨p, h1, rfl⟩ := hg
      obtain ⟨z, _, rfl⟩ := List.mem_map.1 (List.mem_of_find?_eq_some h1)
      rfl
  · rw [getK_none (by rw [metM_fst]; exact h), decide_eq_false h]; rfl
def lastI (l : List Int) : Nat → Int
  | 0 => -1
  | k + 1 => l.getD k 0
theorem okIn_last {n : Int} {l : List Int} {k : Nat} {x : Int} (h : okIn n (l.take k)) (hx : l[k]? = some x) (h1 : lastI l k < x) (h2 : x < n) : okIn n (l.take (k + 1)) := by
  refine okIn_next h hx ?_ h2 fun j y e hy => ?_
  · cases k with
    | zero => simp only [lastI] at h1; omega
    | succ j =>
      have hkl := (List.getElem?_eq_some_iff.1 hx).1
      obtain ⟨y, hy⟩ : ∃ y, l[j]? = some y := ⟨_, List.getElem?_eq_getElem (by omega)⟩
      simp only [lastI, List.getD_eq_getElem?_getD, hy, Option.getD_some] at h1
      have := (h.1 y (List.mem_take_iff_getElem.2 ⟨j, by omega, (List.getElem?_eq_some_iff.1 hy).2⟩)).1
      omega
  · subst e
    simpa [lastI, List.getD_eq_getElem?_getD, hy] using h1
theorem okIn_bad {n : Int} {l : List Int} {k : Nat} {x : Int} (hx : l[k]? = some x) (h : x ≤ lastI l k) : ¬ okIn n l := by
  cases k with
  | zero => exact okIn_out hx (.inl (by simp only [lastI] at h; omega))
  | succ j =>
    have hkl := (List.getElem?_eq_some_iff.1 hx).1
    obtain ⟨y, hy⟩ : ∃ y, l[j]? = some y := ⟨_, List.getElem?_eq_getElem (by omega)⟩
    exact okIn_low hy hx (by simpa [lastI, List.getD_eq_getElem?_getD, hy] using h)
theorem okIn_notin {n : Int} {l : List Int} {k : Nat} {x : Int} (hx : l[k]? = some x) (h : okIn n (l.take (k + 1))) : x ∉ l.take k := fun hm => by
  have h2 := h.2
  rw [List.take_add_one, hx] at h2
  have := (List.pairwise_append.1 h2).2.2 x hm x (by simp)
  omega
end Fil
namespace Go.Proofs.YtpajjnkmaebhcabGreat
open Go.RowKit Go.Sl Fil
set_option maxRecDepth 100000
set_option maxHeartbeats 8000000
set_option linter.unusedVariables false
set_option linter.unusedSimpArgs false
attribute [local irreducible] Code.wp wpList bodyPost wpQuiet Exit.then Exit.inBlock Post wpAnyH wpOp
theorem indexF_ok (v : Value) (es : List E) (f : FuncId) (caps : List Value) (p : E → Bool) (w : World) [FnTy Tryz.prog f] (hs : Shp v es.length) (hr : RO w No v (esV es))
    (hcl : ∀ (k : Nat) e, es[k]? = some e → ∀ w' S', Mod w No w' S' → Calls Tryz.prog f ([Value.agg (eV e).toArray] ++ caps).toArray w' (Post w' No (Just (.bool (p e))))) :
    Calls Tryz.prog 87 #[v, .func (.func f) #[] caps.toArray] w (Post w No (Just (.int .i64 (match es.findIdx? p with | some i => (i : Int) | none => -1)))) := by
  have hm := hs.1
  simp only [maxLen] at hm
  refine enter0 (vs := [_, _]) Tryz.func87 rfl Tryz.ntmps87 rfl ?_
  repeat' first
    | refine k_then ?_ | refine c_seq ?_ | refine c_region ?_ | refine s_nil ?_ | refine s_move (by exact rfl) (by exact rfl) ?_ | refine s_assign (by exact rfl) (by exact rfl) ?_ | refine s_len (by exact rfl) (by exact rfl) (by assumption) ?_ | refine c_block ?_
  refine c_loop (fun k : Nat => k ≤ es.length ∧ ∀ e ∈ es.take k, p e = false) (fun k => [(0, v), (1, .func (.func f) #[] caps.toArray), (6, v), (7, .int .i64 (es.length : Int)), (8, .int .i64 (k : Int))]) (fun _ => []) (fun k => es.length - k) 0 [] ⟨by omega, by simp⟩ rfl ⟨rfl, rfl, rfl, rfl, rfl, trivial⟩ ?_
  rintro k ⟨hk, hq⟩
  by_cases hlt : k < es.length
  · obtain ⟨e, he⟩ : ∃ e, es[k]? = some e := ⟨_, List.getElem?_eq_getElem hlt⟩
    have hE := esV_at he
    repeat' first
      | refine k_then ?_ | refine c_seq ?_ | refine c_region ?_ | refine s_nil ?_ | refine s_move (by exact rfl) (by exact rfl) ?_ | refine s_assign (by exact rfl) (by exact rfl) ?_ | refine s_lss (by exact rfl) (by exact rfl) (by exact rfl) ?_ | refine s_idx (by exact rfl) (by exact rfl) (by exact rfl) (by assumption) (by first | assumption | omega) ?_ | refine s_ldk_ro (by exact rfl) (by exact rfl) (by assumption) (by decide) (by assumption) (by exact rfl) ?_ | refine c_block ?_ | refine c_skip ?_ | (refine c_cond_p (by exact rfl) (fun h => ?_) (fun h => ?_) <;> try (exfalso; omega))
    refine s_callv (pre := []) (by exact rfl) (by exact rfl) (by exact rfl) (fun w h => h.mod0.elim fun S' hm => hcl k e he w S' hm) ?_
    cases hp : p e
    · repeat' first
        | refine k_then ?_ | refine c_region ?_ | refine s_nil ?_ | refine s_move (by exact rfl) (by exact rfl) ?_ | refine s_add (by exact rfl) (by exact rfl) (by exact rfl) (by omega) ?_ | refine c_skip ?_ | refine k_blk ?_ | refine c_cond_f (by exact rfl) ?_
      refine c_round (k + 1) [] (by exact rfl) ⟨rfl, rfl, rfl, rfl, rfl, trivial⟩ ⟨by omega, ?_⟩ (by omega)
      rw [List.take_add_one, he]
      intro a ha
      rcases List.mem_append.1 ha with ha | ha
      · exact hq a ha
      · obtain rfl : a = e := by simpa using ha
        exact hp
    · repeat' first
        | refine k_then ?_ | refine c_seq ?_ | refine c_region ?_ | refine s_nil ?_ | refine s_move (by exact rfl) (by exact rfl) ?_ | refine s_assign (by exact rfl) (by exact rfl) ?_ | refine c_ret ?_ | refine k_then_ret ?_ | refine k_blk_ret ?_ | refine c_cond_t (by exact rfl) ?_
      have hfi : es.findIdx? p = some k := by
        rw [List.findIdx?_eq_some_iff_getElem]
        obtain ⟨h1, h2⟩ := List.getElem?_eq_some_iff.1 he
        refine ⟨h1, by rw [h2]; exact hp, fun j hj => ?_⟩
        rw [hq _ (List.mem_take_iff_getElem.2 ⟨j, by omega, rfl⟩)]
        simp
      refine ret1 [] rfl rfl rfl ⟨by rw [hfi], rfl⟩
  · rw [List.take_of_length_le (by omega)] at hq
    repeat' first
      | refine k_then ?_ | refine c_seq ?_ | refine c_region ?_ | refine s_nil ?_ | refine s_assign (by exact rfl) (by exact rfl) ?_ | refine s_lss (by exact rfl) (by exact rfl) (by exact rfl) ?_ | refine c_exit ?_ | refine c_ret ?_ | refine k_then_exit ?_ | refine k_blk_eq ?_ | (refine c_cond_p (by exact rfl) (fun h => ?_) (fun h => ?_) <;> try (exfalso; omega))
    refine ret1 [] rfl rfl rfl ⟨by rw [List.findIdx?_eq_none_iff.2 hq], rfl⟩
theorem containsF_ok (v : Value) (es : List E) (f : FuncId) (caps : List Value) (p : E → Bool) (w : World) [FnTy Tryz.prog f] (hs : Shp v es.length) (hr : RO w No v (esV es))
    (hcl : ∀ (k : Nat) e, es[k]? = some e → ∀ w' S', Mod w No w' S' → Calls Tryz.prog f ([Value.agg (eV e).toArray] ++ caps).toArray w' (Post w' No (Just (.bool (p e))))) :
    Calls Tryz.prog 58 #[v, .func (.func f) #[] caps.toArray] w (Post w No (Just (.bool (es.any p)))) := by
  refine enter0 (vs := [_, _]) Tryz.func58 rfl Tryz.ntmps58 rfl ?_
  repeat' first
    | refine k_then ?_ | refine c_seq ?_ | refine c_region ?_ | refine s_nil ?_ | refine s_move (by exact rfl) (by exact rfl) ?_ | refine s_assign (by exact rfl) (by exact rfl) ?_
  refine s_call (by exact rfl) (by exact rfl) (fun w h => h.mod0.elim fun S' hm => indexF_ok v es f caps p w hs (ro_old h hr) fun k e he w' S2 hm2 => hcl k e he w' _ (mod_trans0 hm hm2)) ?_
  repeat' first
    | refine k_then ?_ | refine s_nil ?_ | refine s_assign (by exact rfl) (by exact rfl) ?_ | refine s_geq (by exact rfl) (by exact rfl) (by exact rfl) ?_ | refine c_ret ?_
  refine ret1 [] rfl rfl rfl ⟨congrArg Value.bool ?_, rfl⟩
  cases h : es.findIdx? p with
  | none =>
    have := List.findIdx?_eq_none_iff.1 h
    rw [List.any_eq_false.2 (fun x hx => by rw [this x hx]; simp)]
    simp
  | some i =>
    obtain ⟨h1, h2, _⟩ := List.findIdx?_eq_some_iff_getElem.1 h
    rw [List.any_eq_true.2 ⟨_, List.getElem_mem h1, h2⟩]
    simp
theorem check1_ok (e : E) (c : Nat) (vm : Value) (l : List Int) (w : World) (h1 : okI e.1) (h2 : okI e.2.1) (hc : RB w No c 62 [vm]) (hm : RM ekI Value.bool okI w No vm (metM l)) :
    Calls Tryz.prog 84 #[.agg (eV e).toArray, .pointer (some ⟨c, 0, none⟩)] w (Post w No (Just (.bool (decide (e.1 ∈ l) && decide (e.2.1 ∈ l))))) := by
  refine enter0 (vs := [_, _]) Tryz.func84 rfl Tryz.ntmps84 rfl ?_
  have g1 := metM_get l e.1
  have g2 := metM_get l e.2.1
  generalize decide (e.1 ∈ l) = p1 at *
  generalize decide (e.2.1 ∈ l) = p2 at *
  cases p1
  · repeat' first
      | refine k_then ?_ | refine c_seq ?_ | refine c_region ?_ | refine s_nil ?_ | refine s_move (by exact rfl) (by exact rfl) ?_ | refine s_assign (by exact rfl) (by exact rfl) ?_ | refine s_fa (by exact rfl) (by exact rfl) ?_ | refine s_ld_box (by exact rfl) (by exact rfl) (by exact .head _) (by exact rfl) ?_ | refine s_look_ro (by exact rfl) (by exact rfl) (by exact rfl) (by assumption) (by exact rfl) (by assumption) (by first | exact ⟨by omega, by omega⟩ | exact ⟨⟨by omega, by omega⟩, by omega, by omega⟩) ?_ | refine s_pick_f (by exact rfl) (by exact rfl) (by exact rfl) ?_ | refine s_ld_rb (by exact rfl) (by exact rfl) (by assumption) (by exact rfl) ?_ | refine o_box (by exact rfl) (by exact rfl) (fun b => ?_) | refine c_ret ?_ | refine g_skip (by exact rfl) (by exact rfl) (by exact rfl) (by exact rfl) ?_
    refine ret1 [] rfl rfl rfl ⟨rfl, rfl⟩
  · repeat' first
      | refine k_then ?_ | refine c_seq ?_ | refine c_region ?_ | refine s_nil ?_ | refine s_move (by exact rfl) (by exact rfl) ?_ | refine s_assign (by exact rfl) (by exact rfl) ?_ | refine s_fa (by exact rfl) (by exact rfl) ?_ | refine s_ld_box (by exact rfl) (by exact rfl) (by exact .head _) (by exact rfl) ?_ | refine s_look_ro (by exact rfl) (by exact rfl) (by exact rfl) (by assumption) (by exact rfl) (by assumption) (by first | exact ⟨by omega, by omega⟩ | exact ⟨⟨by omega, by omega⟩, by omega, by omega⟩) ?_ | refine s_pick_t (by exact rfl) (by exact rfl) (by exact rfl) ?_ | refine s_ld_rb (by exact rfl) (by exact rfl) (by assumption) (by exact rfl) ?_ | refine o_box (by exact rfl) (by exact rfl) (fun b => ?_) | refine c_ret ?_ | refine w_fa (by exact rfl) (by exact rfl) (by exact rfl) (by exact rfl) ?_ | refine w_ld_box (by exact rfl) (by exact rfl) (by exact rfl) (by exact rfl) (by exact .head _) (by exact rfl) ?_ | refine w_look_ro (by exact rfl) (by exact rfl) (by exact rfl) (by exact rfl) (by exact rfl) (by assumption) (by exact rfl) (by assumption) (by first | exact ⟨by omega, by omega⟩ | exact ⟨⟨by omega, by omega⟩, by omega, by omega⟩) ?_ | refine w_ld_rb (by exact rfl) (by exact rfl) (by exact rfl) (by exact rfl) (by assumption) (by exact rfl) ?_
    refine ret1 [] rfl rfl rfl ⟨rfl, rfl⟩
theorem Check_ok (n : Int) (v vi : Value) (es : List E) (l : List Int) (w : World) (hs : Shp v es.length) (hr : RO w No v (esV es)) (hm : es.length < 4611686018427387904) (hs2 : Shp vi l.length) (hr2 : RO w No vi (iV l)) :
    Calls Tryz.prog 52 #[.agg #[.int .i64 n, v], vi] w (Post w No (Just (.int .i64 (indK n es l)))) := by
  have hlm := hs2.1
  simp only [maxLen] at hlm
  refine enter0 (vs := [_, _]) Tryz.func52 rfl Tryz.ntmps52 rfl ?_
  repeat' first
    | refine k_then ?_ | refine c_seq ?_ | refine c_region ?_ | refine s_nil ?_ | refine s_assign (by exact rfl) (by exact rfl) ?_ | refine s_ldk_box (by exact rfl) (by exact rfl) (by exact .head _) (by exact rfl) (by exact rfl) ?_ | refine o_box (by exact rfl) (by exact rfl) (fun b => ?_)
  refine s_call (by exact rfl) (by exact rfl) (fun w h => Right_ok n v es w hs (ro_old h hr) hm) ?_
  by_cases hR0 : rightK n es = 0
  · have hi : indK n es l = if okIn n l ∧ indP es l then 0 else 13 := by rw [indK, if_pos hR0]
    have hR := right_iff.1 hR0
    have hhi := hR.hi
    rw [hR0]
    repeat' first
      | refine k_then ?_ | refine c_seq ?_ | refine c_region ?_ | refine s_nil ?_ | refine s_assign (by exact rfl) (by exact rfl) ?_ | refine s_neq (by exact rfl) (by exact rfl) (by exact rfl) ?_ | refine c_skip ?_ | (refine c_cond_p (by exact rfl) (fun h => ?_) (fun h => ?_) <;> try (exfalso; omega))
    refine o_makeMap (by exact rfl) fun bm => ?_
    repeat' first
      | refine o_alloc (by exact rfl) (fun b => ?_)
    rename_i b1
    refine o_st_box (i := 0) (by exact rfl) (by exact rfl) (by exact rfl) rfl (by simp [Value.cells]) ?_
    repeat' first
      | refine k_then ?_ | refine c_seq ?_ | refine c_region ?_ | refine s_nil ?_ | refine s_move (by exact rfl) (by exact rfl) ?_ | refine s_len (by exact rfl) (by exact rfl) (by assumption) ?_ | refine c_block ?_
    refine c_loop (fun k : Nat => k ≤ l.length ∧ okIn n (l.take k)) (fun k => [(2, .pointer (some ⟨b1, 0, none⟩)), (5, .int .i64 (lastI l k)), (6, .pointer (some ⟨b, 0, none⟩)), (13, vi), (14, .int .i64 (l.length : Int)), (15, .int .i64 (k : Int))])
      (fun k => [boxHP b 62 [.map (some bm)], mapHP ekI Value.bool okI (.map (some bm)) (metM (l.take k)), boxHP b1 24 [.int .i64 n, v]]) (fun k => l.length - k) 0 [0, 0, 0] ⟨by omega, by simp [okIn]⟩ (by exact rfl) ⟨rfl, rfl, rfl, rfl, rfl, rfl, trivial⟩ ?_
    rintro k ⟨hk, hq⟩
    by_cases hlt : k < l.length
    · obtain ⟨x, hx⟩ : ∃ x, l[k]? = some x := ⟨_, List.getElem?_eq_getElem hlt⟩
      have hcx : (iV l)[k * 1]? = some (.int .i64 x) := by simp [iV, hx]
      by_cases hlow : x ≤ lastI l k
      · repeat' first
          | refine k_then ?_ | refine c_seq ?_ | refine c_region ?_ | refine s_nil ?_ | refine s_move (by exact rfl) (by exact rfl) ?_ | refine s_assign (by exact rfl) (by exact rfl) ?_ | refine s_lss (by exact rfl) (by exact rfl) (by exact rfl) ?_ | refine s_leq (by exact rfl) (by exact rfl) (by exact rfl) ?_ | refine s_idx (by exact rfl) (by exact rfl) (by exact rfl) (by assumption) (by first | assumption | omega) ?_ | refine s_pick_t (by exact rfl) (by exact rfl) (by exact rfl) ?_ | refine s_ld_ro (by exact rfl) (by exact rfl) (by assumption) (by assumption) ?_ | refine c_block ?_ | refine c_skip ?_ | refine c_ret ?_ | refine k_then_ret ?_ | refine k_blk_ret ?_ | (refine c_cond_p (by exact rfl) (fun h => ?_) (fun h => ?_) <;> try (exfalso; omega)) | refine c_cond_t (by exact rfl) ?_ | (refine g_case (by exact rfl) (by exact rfl) (fun h => ?_) (fun h => ?_) <;> try (exfalso; omega)) | refine g_skip (by exact rfl) (by exact rfl) (by exact rfl) (by exact rfl) ?_
        refine ret1 [] rfl rfl rfl ⟨by rw [hi, if_neg (fun h => okIn_bad hx hlow h.1)], rfl⟩
      · by_cases hxn : n ≤ x
        · repeat' first
            | refine k_then ?_ | refine c_seq ?_ | refine c_region ?_ | refine s_nil ?_ | refine s_move (by exact rfl) (by exact rfl) ?_ | refine s_assign (by exact rfl) (by exact rfl) ?_ | refine s_lss (by exact rfl) (by exact rfl) (by exact rfl) ?_ | refine s_leq (by exact rfl) (by exact rfl) (by exact rfl) ?_ | refine s_idx (by exact rfl) (by exact rfl) (by exact rfl) (by assumption) (by first | assumption | omega) ?_ | refine s_pick_f (by exact rfl) (by exact rfl) (by exact rfl) ?_ | refine s_ld_ro (by exact rfl) (by exact rfl) (by assumption) (by assumption) ?_ | refine c_block ?_ | refine c_skip ?_ | refine c_ret ?_ | refine k_then_ret ?_ | refine k_blk_ret ?_ | (refine c_cond_p (by exact rfl) (fun h => ?_) (fun h => ?_) <;> try (exfalso; omega)) | (refine g_case (by exact rfl) (by exact rfl) (fun h => ?_) (fun h => ?_) <;> try (exfalso; omega)) | refine w_move (by exact rfl) (by exact rfl) (by exact rfl) (by exact rfl) ?_ | refine w_fa (by exact rfl) (by exact rfl) (by exact rfl) (by exact rfl) ?_ | refine w_ld_box (by exact rfl) (by exact rfl) (by exact rfl) (by exact rfl) (by exact .tail _ (.tail _ (.head _))) (by exact rfl) ?_ | refine w_geq (by exact rfl) (by exact rfl) (by exact rfl) (by exact rfl) (by exact rfl) ?_
          refine ret1 [] rfl rfl rfl ⟨by rw [hi, if_neg (fun h => okIn_out hx (.inr hxn) h.1)], rfl⟩
        · have hq2 := okIn_last hq hx (by omega) (by omega)
          have h0 := (hq2.1 x (by rw [List.take_add_one, hx]; simp)).1
          have hput := metM_put (okIn_notin hx hq2)
          rw [show l.take k ++ [x] = l.take (k + 1) by rw [List.take_add_one, hx]; rfl] at hput
          repeat' first
            | refine k_then ?_ | refine c_seq ?_ | refine c_region ?_ | refine s_nil ?_ | refine s_move (by exact rfl) (by exact rfl) ?_ | refine s_assign (by exact rfl) (by exact rfl) ?_ | refine s_ld_box (by exact rfl) (by exact rfl) (by exact .head _) (by exact rfl) ?_ | refine s_lss (by exact rfl) (by exact rfl) (by exact rfl) ?_ | refine s_leq (by exact rfl) (by exact rfl) (by exact rfl) ?_ | refine s_idx (by exact rfl) (by exact rfl) (by exact rfl) (by assumption) (by first | assumption | omega) ?_ | refine s_pick_f (by exact rfl) (by exact rfl) (by exact rfl) ?_ | refine s_ld_ro (by exact rfl) (by exact rfl) (by assumption) (by assumption) ?_ | refine c_block ?_ | refine c_skip ?_ | (refine c_cond_p (by exact rfl) (fun h => ?_) (fun h => ?_) <;> try (exfalso; omega)) | (refine g_case (by exact rfl) (by exact rfl) (fun h => ?_) (fun h => ?_) <;> try (exfalso; omega)) | refine w_move (by exact rfl) (by exact rfl) (by exact rfl) (by exact rfl) ?_ | refine w_fa (by exact rfl) (by exact rfl) (by exact rfl) (by exact rfl) ?_ | refine w_ld_box (by exact rfl) (by exact rfl) (by exact rfl) (by exact rfl) (by exact .tail _ (.tail _ (.head _))) (by exact rfl) ?_ | refine w_geq (by exact rfl) (by exact rfl) (by exact rfl) (by exact rfl) (by exact rfl) ?_
          refine o_mapup x true (by exact rfl) (by exact rfl) (by exact rfl) (i := 1) (by exact rfl) rfl rfl ⟨by omega, by omega⟩ ?_
          rw [hput]
          repeat' first
            | refine k_then ?_ | refine c_region ?_ | refine s_nil ?_ | refine s_move (by exact rfl) (by exact rfl) ?_ | refine s_add (by exact rfl) (by exact rfl) (by exact rfl) (by omega) ?_ | refine k_blk ?_
          refine c_round (k + 1) [0, 0, 0] (by exact rfl) ?_ ⟨by omega, hq2⟩ (by omega)
          rw [show lastI l (k + 1) = x by simp [lastI, List.getD_eq_getElem?_getD, hx]]
          exact ⟨rfl, rfl, rfl, rfl, rfl, rfl, trivial⟩
    · rw [List.take_of_length_le (by omega)] at hq ⊢
      repeat' first
        | refine k_then ?_ | refine c_seq ?_ | refine c_region ?_ | refine s_nil ?_ | refine s_fa (by exact rfl) (by exact rfl) ?_ | refine s_ld_box (by exact rfl) (by exact rfl) (by exact .tail _ (.tail _ (.head _))) (by exact rfl) ?_ | refine s_lss (by exact rfl) (by exact rfl) (by exact rfl) ?_ | refine c_exit ?_ | refine k_then_exit ?_ | refine k_blk_eq ?_ | (refine c_cond_p (by exact rfl) (fun h => ?_) (fun h => ?_) <;> try (exfalso; omega))
      refine o_mkf [] [.pointer (some ⟨b, 0, none⟩)] (by exact rfl) (by exact rfl) (by exact rfl) ?_
      refine s_call (by exact rfl) (by exact rfl) (fun w h => containsF_ok v es 84 [.pointer (some ⟨b, 0, none⟩)] (fun e => decide (e.1 ∈ l) && decide (e.2.1 ∈ l)) w hs (ro_old h hr) ?_) ?_
      · intro k e he w' S' hm
        obtain ⟨q1, q2, q3, q4, -⟩ := hR.ok e (List.mem_of_getElem? he)
        exact check1_ok e b (.map (some bm)) l w' ⟨by omega, by omega⟩ ⟨by omega, by omega⟩ (rb_mod (rb_own h (.head _)) hm) (rm_mod (rm_own h (.tail _ (.head _))) hm)
      by_cases hp : indP es l
      · rw [show (es.any fun e => decide (e.1 ∈ l) && decide (e.2.1 ∈ l)) = false from by
          rw [List.any_eq_false]
          intro e he
          simpa using fun h1 h2 => hp e he ⟨h1, h2⟩]
        repeat' first
          | refine k_then ?_ | refine c_seq ?_ | refine c_region ?_ | refine s_nil ?_ | refine s_assign (by exact rfl) (by exact rfl) ?_ | refine c_skip ?_ | refine c_ret ?_ | refine c_cond_f (by exact rfl) ?_
        refine ret1 [] rfl rfl rfl ⟨by rw [hi, if_pos ⟨hq, hp⟩], rfl⟩
      · rw [show (es.any fun e => decide (e.1 ∈ l) && decide (e.2.1 ∈ l)) = true from by
          rw [List.any_eq_true]
          refine Decidable.byContradiction fun hn => hp fun e he h => hn ⟨e, he, by simpa using h⟩]
        repeat' first
          | refine k_then ?_ | refine c_seq ?_ | refine c_region ?_ | refine s_nil ?_ | refine s_assign (by exact rfl) (by exact rfl) ?_ | refine c_ret ?_ | refine k_then_ret ?_ | refine c_cond_t (by exact rfl) ?_
        refine ret1 [] rfl rfl rfl ⟨by rw [hi, if_neg (fun h => hp h.2)], rfl⟩
  · repeat' first
      | refine k_then ?_ | refine c_seq ?_ | refine c_region ?_ | refine s_nil ?_ | refine s_assign (by exact rfl) (by exact rfl) ?_ | refine s_neq (by exact rfl) (by exact rfl) (by exact rfl) ?_ | refine c_ret ?_ | refine k_then_ret ?_ | (refine c_cond_p (by exact rfl) (fun h => ?_) (fun h => ?_) <;> try (exfalso; omega))
    refine ret1 [] rfl rfl rfl ⟨by rw [indK, if_neg hR0], rfl⟩
end Go.Proofs.YtpajjnkmaebhcabGreat
end
section
set_option linter.unusedVariables false
namespace Fil
def enoughB (n : Int) (es : List E) (l : List Int) (m k : Int) : Bool := decide (1 ≤ k ∧ k ≤ 8 ∧ 0 ≤ m ∧ m ≤ 1048576 ∧ indK n es l = 0 ∧ k * m ≤ (k + 1) * l.length)
end Fil
namespace Go.Proofs.YtpajjnkmaebhcabGreat
open Go Go.RowKit Go.Sl Fil
set_option maxRecDepth 100000
set_option maxHeartbeats 8000000
set_option linter.unusedVariables false
set_option linter.unusedSimpArgs false
attribute [local irreducible] Code.wp wpList bodyPost wpQuiet Exit.then Exit.inBlock Post wpAnyH wpOp
theorem mul_small {k m : Int} (h : 1 ≤ k ∧ k ≤ 9) (h2 : 0 ≤ m ∧ m ≤ 140737488355328) : 0 ≤ k * m ∧ k * m ≤ 1266637395197952 := by
  have h1 : k = 1 ∨ k = 2 ∨ k = 3 ∨ k = 4 ∨ k = 5 ∨ k = 6 ∨ k = 7 ∨ k = 8 ∨ k = 9 := by omega
  rcases h1 with rfl | rfl | rfl | rfl | rfl | rfl | rfl | rfl | rfl <;> omega
theorem Enough_ok (n : Int) (v vi : Value) (es : List E) (l : List Int) (m k : Int) (w : World) (hs : Shp v es.length) (hr : RO w No v (esV es)) (hm : es.length < 4611686018427387904) (hs2 : Shp vi l.length) (hr2 : RO w No vi (iV l)) (hll : l.length ≤ 140737488355328) :
    Calls Tryz.prog 27 #[.agg #[.int .i64 n, v], vi, .int .i64 m, .int .i64 k] w (Post w No (Just (.bool (enoughB n es l m k)))) := by
  refine enter0 (vs := [_, _, _, _]) Tryz.func27 rfl Tryz.ntmps27 rfl ?_
  repeat' first
    | refine k_then ?_ | refine c_seq ?_ | refine c_region ?_ | refine s_nil ?_ | refine s_move (by exact rfl) (by exact rfl) ?_ | refine s_assign (by exact rfl) (by exact rfl) ?_ | refine s_lss (by exact rfl) (by exact rfl) (by exact rfl) ?_ | refine s_gtr (by exact rfl) (by exact rfl) (by exact rfl) ?_ | refine s_ldk_box (by exact rfl) (by exact rfl) (by exact .head _) (by exact rfl) (by exact rfl) ?_ | refine o_box (by exact rfl) (by exact rfl) (fun b => ?_) | refine c_block ?_ | refine c_skip ?_ | refine c_ret ?_ | refine k_then_ret ?_ | refine k_blk_ret ?_ | (refine c_cond_p (by exact rfl) (fun h => ?_) (fun h => ?_) <;> try (exfalso; omega)) | fail
  all_goals first
    | refine ret1 [] rfl rfl (by exact rfl) ⟨congrArg Value.bool (decide_eq_false (by omega)).symm, rfl⟩
    | skip
  refine s_call (vs := [.agg #[.int .i64 n, v], vi]) (by exact rfl) (by exact rfl) (fun w h => Check_ok n v vi es l w hs (ro_old h hr) hm hs2 (ro_old h hr2)) ?_
  have h9 := mul_small (k := k + 1) (m := l.length) (by omega) (by omega)
  have h8 := mul_small (k := k) (m := m) (by omega) (by omega)
  repeat' first
    | refine k_then ?_ | refine c_seq ?_ | refine c_region ?_ | refine s_nil ?_ | refine s_move (by exact rfl) (by exact rfl) ?_ | refine s_assign (by exact rfl) (by exact rfl) ?_ | refine s_geq (by exact rfl) (by exact rfl) (by exact rfl) ?_ | refine s_neq (by exact rfl) (by exact rfl) (by exact rfl) ?_ | refine s_add (by exact rfl) (by exact rfl) (by exact rfl) (by omega) ?_ | refine s_mul (by exact rfl) (by exact rfl) (by exact rfl) (by omega) ?_ | refine s_len (by exact rfl) (by exact rfl) (by assumption) ?_ | refine c_skip ?_ | refine c_ret ?_ | refine k_then_ret ?_ | refine k_blk ?_ | refine k_blk_ret ?_ | (refine c_cond_p (by exact rfl) (fun h => ?_) (fun h => ?_) <;> try (exfalso; omega)) | fail
  · refine ret1 [] rfl rfl (by exact rfl) ⟨congrArg Value.bool (decide_eq_false fun hh => by omega).symm, rfl⟩
  · refine ret1 [] rfl rfl (by exact rfl) ⟨congrArg Value.bool ?_, rfl⟩
    rw [enoughB, decide_eq_decide]
    constructor
    · intro h; exact ⟨by omega, by omega, by omega, by omega, by omega, by omega⟩
    · rintro ⟨_, _, _, _, _, h⟩; omega
end Go.Proofs.YtpajjnkmaebhcabGreat
end
section
set_option linter.unusedVariables false
namespace Fil
def sumL (ls : List (List Int)) : Nat := (ls.map List.length).sum
theorem sumL_take {ls : List (List Int)} {k : Nat} {l : List Int} (h : ls[k]? = some l) : sumL (ls.take (k + 1)) = sumL (ls.take k) + l.length := by
  rw [List.take_add_one, h, sumL, List.map_append, List.sum_append]
  simp [sumL]
theorem sumL_le : ∀ {ls : List (List Int)} {l : List Int}, l ∈ ls → l.length ≤ sumL ls
  | x :: ls, l, h => by
    simp only [sumL, List.map_cons, List.sum_cons]
    rcases List.mem_cons.1 h with rfl | h
    · omega
    · have := sumL_le h
      simp only [sumL] at this
      omega
theorem sumL_mono (ls : List (List Int)) (k : Nat) : sumL (ls.take k) ≤ sumL ls := by
  conv => rhs; rw [← List.take_append_drop k ls, sumL, List.map_append, List.sum_append]
  exact Nat.le_add_right _ _
def light7 (n : Int) (m : Nat) (ls : List (List Int)) (k : Int) : Bool := (decide (n ≤ k) && decide ((m : Int) ≤ 4 * k)) && decide ((ls.length : Int) ≤ 2 * k) && decide ((sumL ls : Int) ≤ 1000)
theorem light7_t {n : Int} {m : Nat} {ls : List (List Int)} {k : Int} (h : light7 n m ls k = true) : n ≤ k ∧ (m : Int) ≤ 4 * k ∧ (ls.length : Int) ≤ 2 * k ∧ ∀ l ∈ ls, l.length ≤ 1000 := by
  simp only [light7, Bool.and_eq_true, decide_eq_true_eq] at h
  obtain ⟨⟨⟨h1, h2⟩, h3⟩, h4⟩ := h
  exact ⟨h1, h2, h3, fun l hl => by have := sumL_le hl; omega⟩
end Fil
namespace Go.Proofs.YtpajjnkmaebhcabGreat
open Go.RowKit Go.Sl Fil
set_option maxRecDepth 100000
set_option maxHeartbeats 8000000
set_option linter.unusedVariables false
set_option linter.unusedSimpArgs false
attribute [local irreducible] Code.wp wpList bodyPost wpQuiet Exit.then Exit.inBlock Post wpAnyH wpOp
theorem Light7_ok (n : Int) (v : Value) (m : Nat) (vr : Value) (hr0 : List Value) (ls : List (List Int)) (k : Int) (w : World) (hs : Shp v m) (hR : ROsI w No vr hr0 ls) (hlen : ∀ l ∈ ls, l.length ≤ 17592186044416) (hk : 0 ≤ k ∧ k < 1000000) :
    Calls Tryz.prog 10 #[.agg #[.int .i64 n, v], vr, .int .i64 k] w (Post w No (Just (.bool (light7 n m ls k)))) := by
  have hsr := hR.shp
  have hrr := hR.ro
  have hls := hsr.1
  simp only [maxLen] at hls
  refine enter0 (vs := [_, _, _]) Tryz.func10 rfl Tryz.ntmps10 rfl ?_
  repeat' first
    | refine k_then ?_ | refine c_seq ?_ | refine c_region ?_ | refine s_nil ?_ | refine s_assign (by exact rfl) (by exact rfl) ?_ | refine o_box (by exact rfl) (by exact rfl) (fun b => ?_) | refine c_block ?_
  refine c_loop (fun i : Nat => i ≤ ls.length) (fun i => [(1, vr), (2, .int .i64 k), (3, .pointer (some ⟨b, 0, none⟩)), (6, .bool false), (7, .int .i64 (sumL (ls.take i) : Int)), (8, .int .i64 (i : Int))]) (fun _ => [boxHP b 24 (Value.agg #[.int .i64 n, v]).cells.toList]) (fun i => ls.length - i) 0 [0] (Nat.zero_le _) rfl ⟨rfl, rfl, rfl, rfl, rfl, rfl, trivial⟩ ?_
  rintro i hi
  by_cases hlt : i < ls.length
  · obtain ⟨hx, hhx⟩ : ∃ x, hr0[i]? = some x := ⟨_, List.getElem?_eq_getElem (by have := hR.len; omega)⟩
    obtain ⟨l, hl⟩ : ∃ l, ls[i]? = some l := ⟨_, List.getElem?_eq_getElem hlt⟩
    obtain ⟨hsx, hrx⟩ := hR.kid i hx l hhx hl
    have h1' : hr0[i * 1]? = some hx := by rw [Nat.mul_one]; exact hhx
    have hm := hlen l (List.mem_of_getElem? hl)
    have hst := sumL_take hl
    by_cases h10 : sumL (ls.take i) ≤ 1000
    · repeat' first
        | refine k_then ?_ | refine c_seq ?_ | refine c_region ?_ | refine s_nil ?_ | refine s_move (by exact rfl) (by exact rfl) ?_ | refine s_assign (by exact rfl) (by exact rfl) ?_ | refine s_lss (by exact rfl) (by exact rfl) (by exact rfl) ?_ | refine s_add (by exact rfl) (by exact rfl) (by exact rfl) (by omega) ?_ | refine s_len (by exact rfl) (by exact rfl) (by assumption) ?_ | refine s_idx (by exact rfl) (by exact rfl) (by exact rfl) (by assumption) (by first | assumption | omega) ?_ | refine s_pick_t (by exact rfl) (by exact rfl) (by exact rfl) ?_ | refine s_ld_ro (by exact rfl) (by exact rfl) (by assumption) (by assumption) ?_ | refine c_block ?_ | refine c_skip ?_ | refine k_blk ?_ | (refine c_cond_p (by exact rfl) (fun h => ?_) (fun h => ?_) <;> try (exfalso; omega)) | (refine g_case (by exact rfl) (by exact rfl) (fun h => ?_) (fun h => ?_) <;> try (exfalso; omega)) | refine w_move (by exact rfl) (by exact rfl) (by exact rfl) (by exact rfl) ?_ | refine w_leq (by exact rfl) (by exact rfl) (by exact rfl) (by exact rfl) (by exact rfl) ?_
      refine c_round (i + 1) [0] (by exact rfl) ?_ (by omega) (by omega)
      rw [hst, Int.natCast_add]
      exact ⟨rfl, rfl, rfl, rfl, rfl, rfl, trivial⟩
    · have hmo := sumL_mono ls i
      repeat' first
        | refine k_then ?_ | refine c_seq ?_ | refine c_region ?_ | refine s_nil ?_ | refine s_move (by exact rfl) (by exact rfl) ?_ | refine s_lss (by exact rfl) (by exact rfl) (by exact rfl) ?_ | refine s_len (by exact rfl) (by exact rfl) (by assumption) ?_ | refine s_pick_t (by exact rfl) (by exact rfl) (by exact rfl) ?_ | refine s_ldk_box (by exact rfl) (by exact rfl) (by exact .head _) (by exact rfl) (by exact rfl) ?_ | refine c_exit ?_ | refine k_then_exit ?_ | refine k_blk_eq ?_ | (refine c_cond_p (by exact rfl) (fun h => ?_) (fun h => ?_) <;> try (exfalso; omega)) | (refine g_case (by exact rfl) (by exact rfl) (fun h => ?_) (fun h => ?_) <;> try (exfalso; omega)) | refine w_move (by exact rfl) (by exact rfl) (by exact rfl) (by exact rfl) ?_ | refine w_leq (by exact rfl) (by exact rfl) (by exact rfl) (by exact rfl) (by exact rfl) ?_
      refine s_call (by exact rfl) (by exact rfl) (fun w h => Light_ok n v m k w hs hk) ?_
      unfold light7
      rw [show decide ((sumL ls : Int) ≤ 1000) = false from decide_eq_false (by omega), Bool.and_false]
      cases hb : (decide (n ≤ k) && decide ((m : Int) ≤ 4 * k))
      · repeat' first
          | refine k_then ?_ | refine s_nil ?_ | refine s_move (by exact rfl) (by exact rfl) ?_ | refine s_assign (by exact rfl) (by exact rfl) ?_ | refine s_pick_f (by exact rfl) (by exact rfl) (by exact rfl) ?_ | refine c_ret ?_ | refine g_skip (by exact rfl) (by exact rfl) (by exact rfl) (by exact rfl) ?_
        refine ret1 [] rfl rfl rfl ⟨rfl, rfl⟩
      · repeat' first
          | refine k_then ?_ | refine s_nil ?_ | refine s_move (by exact rfl) (by exact rfl) ?_ | refine s_assign (by exact rfl) (by exact rfl) ?_ | refine s_pick_t (by exact rfl) (by exact rfl) (by exact rfl) ?_ | refine s_pick_f (by exact rfl) (by exact rfl) (by exact rfl) ?_ | refine c_ret ?_ | (refine g_case (by exact rfl) (by exact rfl) (fun h => ?_) (fun h => ?_) <;> try (exfalso; omega)) | refine g_skip (by exact rfl) (by exact rfl) (by exact rfl) (by exact rfl) ?_ | refine w_move (by exact rfl) (by exact rfl) (by exact rfl) (by exact rfl) ?_ | refine w_leq (by exact rfl) (by exact rfl) (by exact rfl) (by exact rfl) (by exact rfl) ?_ | refine w_mul (by exact rfl) (by exact rfl) (by exact rfl) (by exact rfl) (by exact rfl) (by omega) ?_ | refine w_len (by exact rfl) (by exact rfl) (by exact rfl) (by exact rfl) (by assumption) ?_
        all_goals refine ret1 [] rfl rfl rfl ⟨congrArg Value.bool ?_, rfl⟩
        all_goals simp only [decide_eq_false_iff_not]
        all_goals omega
  · repeat' first
      | refine k_then ?_ | refine c_seq ?_ | refine c_region ?_ | refine s_nil ?_ | refine s_move (by exact rfl) (by exact rfl) ?_ | refine s_lss (by exact rfl) (by exact rfl) (by exact rfl) ?_ | refine s_len (by exact rfl) (by exact rfl) (by assumption) ?_ | refine s_pick_f (by exact rfl) (by exact rfl) (by exact rfl) ?_ | refine s_ldk_box (by exact rfl) (by exact rfl) (by exact .head _) (by exact rfl) (by exact rfl) ?_ | refine c_exit ?_ | refine k_then_exit ?_ | refine k_blk_eq ?_ | refine c_cond_f (by exact rfl) ?_ | (refine g_case (by exact rfl) (by exact rfl) (fun h => ?_) (fun h => ?_) <;> try (exfalso; omega)) | refine g_skip (by exact rfl) (by exact rfl) (by exact rfl) (by exact rfl) ?_
    obtain rfl : i = ls.length := by omega
    rw [List.take_length]
    refine s_call (by exact rfl) (by exact rfl) (fun w h => Light_ok n v m k w hs hk) ?_
    unfold light7
    cases hb : (decide (n ≤ k) && decide ((m : Int) ≤ 4 * k))
    · repeat' first
        | refine k_then ?_ | refine s_nil ?_ | refine s_move (by exact rfl) (by exact rfl) ?_ | refine s_assign (by exact rfl) (by exact rfl) ?_ | refine s_pick_f (by exact rfl) (by exact rfl) (by exact rfl) ?_ | refine c_ret ?_ | refine g_skip (by exact rfl) (by exact rfl) (by exact rfl) (by exact rfl) ?_
      all_goals refine ret1 [] rfl rfl rfl ⟨rfl, rfl⟩
    · repeat' first
        | refine k_then ?_ | refine s_nil ?_ | refine s_move (by exact rfl) (by exact rfl) ?_ | refine s_assign (by exact rfl) (by exact rfl) ?_ | refine s_pick_t (by exact rfl) (by exact rfl) (by exact rfl) ?_ | refine s_pick_f (by exact rfl) (by exact rfl) (by exact rfl) ?_ | refine c_ret ?_ | (refine g_case (by exact rfl) (by exact rfl) (fun h => ?_) (fun h => ?_) <;> try (exfalso; omega)) | refine g_skip (by exact rfl) (by exact rfl) (by exact rfl) (by exact rfl) ?_ | refine w_move (by exact rfl) (by exact rfl) (by exact rfl) (by exact rfl) ?_ | refine w_leq (by exact rfl) (by exact rfl) (by exact rfl) (by exact rfl) (by exact rfl) ?_ | refine w_mul (by exact rfl) (by exact rfl) (by exact rfl) (by exact rfl) (by exact rfl) (by omega) ?_ | refine w_len (by exact rfl) (by exact rfl) (by exact rfl) (by exact rfl) (by assumption) ?_
      · refine ret1 [] rfl rfl rfl ⟨congrArg Value.bool ?_, rfl⟩
        rw [decide_eq_true h, Bool.and_true, Bool.true_and]
      · refine ret1 [] rfl rfl rfl ⟨congrArg Value.bool ?_, rfl⟩
        rw [decide_eq_false h, Bool.and_false, Bool.false_and]
end Go.Proofs.YtpajjnkmaebhcabGreat
end
section
set_option linter.unusedVariables false
namespace Go.Proofs.YtpajjnkmaebhcabGreat
open Go Go.RowKit Go.Sl Fil
theorem calls_ex {P : Program} {f : FuncId} {args : Array Value} {w : World} {R : Ending → World → Prop} (h : Calls P f args w R) : ∃ e w', R e w' := by
  obtain ⟨e, w', _, hR, _⟩ := h []
  exact ⟨e, w', hR⟩
theorem lev_ex (w : World) {n : Int} {es : List E} (hR : RightG n es) : ∃ o lab, Lev n.toNat (nb (tn es)) o lab := by
  have hm := hR.many
  let W : World := { w with heap := #[.cells (esV es).toArray 37 (0, 0)] }
  have hs : Shp (.slice (some ⟨0, 0, none⟩) es.length es.length) es.length := ⟨by simp only [maxLen]; omega, .inr (.inl ⟨0, 0, es.length, rfl, Nat.le_refl _, by simp only [maxLen]; omega⟩)⟩
  have hr : RO W No (.slice (some ⟨0, 0, none⟩) es.length es.length) (esV es) := RO.of_rd fun j u hj => ⟨0, 0, es.length, es.length, rfl, by simp [World.cell?, W, hj]⟩
  obtain ⟨e, w', h⟩ := calls_ex (Components_ok n _ es W hs hr hR)
  obtain ⟨v, L, hG, _⟩ := h
  obtain ⟨met, out, lab, _, hB, _⟩ := hG
  exact ⟨_, _, hB.lev⟩
set_option maxRecDepth 100000
set_option maxHeartbeats 8000000
set_option linter.unusedVariables false
set_option linter.unusedSimpArgs false
attribute [local irreducible] Code.wp wpList bodyPost wpQuiet Exit.then Exit.inBlock Post wpAnyH wpOp
end Go.Proofs.YtpajjnkmaebhcabGreat
end
section
set_option linter.unusedVariables false
set_option linter.unusedSimpArgs false
namespace Go.Sl
open Go Go.RowKit
/-- a struct of two integers -/
class E2Ty (P : Program) (t : TypeId) : Prop where
  g : P.eqGuardType P.depth t = false
  e : ∀ (a b c d : Int) w, (Op.equalIn 10000 t (.agg #[.int .i64 a, .int .i64 b]) (.agg #[.int .i64 c, .int .i64 d])).run P w = .ok (decide (a = c ∧ b = d)) w
section
variable {P : Program} {w0 : World} {S0 : FS} {n : Nat} {F : List (Nat × Value)} {L Lk : List HP} {o : Oper} {x y : Operand} {t t' : TypeId} {a b c e : Int} {rest : List Oper} {ops : Array Oper} {Q : Exit → Act → World → Prop} {d i : Nat} {ty : TypeId} {ps : String} {af : Array Edge} {plan : List PI}
theorem q_eql2 [T : E2Ty P t] (ho : o.op = .binOp .eql t x y t') (hx : ev F x = some (.agg #[.int .i64 a, .int .i64 b])) (hy : ev F y = some (.agg #[.int .i64 c, .int .i64 e])) : R1 P w0 S0 n F L o (.bool (decide (a = c ∧ b = e))) :=
  q_of_pure fun s hf w => by
    simp only [execOp, ho, hf.eval hx, hf.eval hy, Sem.run_bind, Result.andThen_ok, run_eqGuard_agg w _ _ _ _ _ _ T.g, run_eql_struct, T.e]
    rfl
theorem s_eql2 [T : E2Ty P t] (hn : Nat.blt d n = true) (hx : ev F x = some (.agg #[.int .i64 a, .int .i64 b])) (hy : ev F y = some (.agg #[.int .i64 c, .int .i64 e])) (h : Reach w0 S0 n ((d, .bool (decide (a = c ∧ b = e))) :: F) L (wpList P ops Q rest)) : Reach w0 S0 n F L (wpList P ops Q (⟨some d, .binOp .eql t x y t', ty, ps, af, none⟩ :: rest)) := s_q rfl rfl hn (q_eql2 rfl hx hy).q h
theorem t_eql2 [T : E2Ty P t] (hn : Nat.blt d n = true) (hx : ev F x = some (.agg #[.int .i64 a, .int .i64 b])) (hy : ev F y = some (.agg #[.int .i64 c, .int .i64 e])) (hkeep : ∀ w, St w0 S0 L w → St w0 S0 Lk w) (h : RP P w0 S0 n ops Q Lk plan ((d, .bool (decide (a = c ∧ b = e))) :: F) L) : RPo P w0 S0 n ops Q Lk ⟨some d, .binOp .eql t x y t', ty, ps, af, none⟩ i true plan F L := fun ho => p_q ho rfl rfl hn hkeep (q_eql2 rfl hx hy) h
end
open Go.Proofs
instance : E2Ty Tryz.prog 100 where
  g := by kernel_rfl
  e a b c d w := by
    rw [run_equalIn_agg w 9999 _ _ _ (by kernel_rfl) (by kernel_rfl)]
    simp [Program.fieldsOf, Tryz.underlying100, Op.eqFields, part]
    rw [run_equalIn_int w 9998 3 .i64 .i64 a c Tryz.underlying3, Result.andThen_ok]
    by_cases h1 : a = c
    · rw [if_neg (by simp [h1]), run_equalIn_int w 9998 3 .i64 .i64 b d Tryz.underlying3, Result.andThen_ok]
      by_cases h2 : b = d <;> simp [h1, h2]
    · rw [if_pos (by simp [h1])]
      simp [h1]
end Go.Sl
end
section
set_option linter.unusedVariables false
set_option linter.unusedSimpArgs false
namespace Go.Sl
open Go Go.RowKit
/-- a struct of two integers and a third one -/
class E3Ty (P : Program) (t : TypeId) : Prop where
  g : P.eqGuardType P.depth t = false
  e : ∀ (a b c d e f : Int) w, (Op.equalIn 10000 t (.agg #[.int .i64 a, .int .i64 b, .int .i64 c]) (.agg #[.int .i64 d, .int .i64 e, .int .i64 f])).run P w = .ok (decide (a = d ∧ b = e ∧ c = f)) w
section
variable {P : Program} {w0 : World} {S0 : FS} {n : Nat} {F : List (Nat × Value)} {L Lk : List HP} {o : Oper} {x y : Operand} {t t' e : TypeId} {rest : List Oper} {ops : Array Oper} {Q : Exit → Act → World → Prop} {d i : Nat} {ty : TypeId} {ps : String} {af : Array Edge} {plan : List PI} {s : Value} {k m len : Nat}
end
open Go.Proofs
instance : E3Ty Tryz.prog 37 where
  g := by kernel_rfl
  e a b c d e f w := by
    rw [run_equalIn_agg w 9999 _ _ _ (by kernel_rfl) (by kernel_rfl)]
    simp [Program.fieldsOf, Tryz.underlying37, Op.eqFields, part]
    rw [run_equalIn_int w 9998 3 .i64 .i64 a d Tryz.underlying3, Result.andThen_ok]
    by_cases h1 : a = d
    · rw [if_neg (by simp [h1]), run_equalIn_int w 9998 3 .i64 .i64 b e Tryz.underlying3, Result.andThen_ok]
      by_cases h2 : b = e
      · rw [if_neg (by simp [h2]), run_equalIn_int w 9998 2 .i64 .i64 c f Tryz.underlying2, Result.andThen_ok]
        by_cases h3 : c = f <;> simp [h1, h2, h3]
      · rw [if_pos (by simp [h2])]
        simp [h1, h2]
    · rw [if_pos (by simp [h1])]
      simp [h1]
end Go.Sl
end
section
set_option linter.unusedVariables false
namespace Fil
end Fil
namespace Go.Proofs.YtpajjnkmaebhcabGreat
open Go Go.RowKit Go.Sl Fil
set_option maxRecDepth 100000
set_option maxHeartbeats 8000000
set_option linter.unusedVariables false
set_option linter.unusedSimpArgs false
attribute [local irreducible] Code.wp wpList bodyPost wpQuiet Exit.then Exit.inBlock Post wpAnyH wpOp
end Go.Proofs.YtpajjnkmaebhcabGreat
end
section
set_option linter.unusedVariables false
namespace Go.Proofs.YtpajjnkmaebhcabGreat
open Go Go.RowKit Go.Sl Fil
theorem planeIs_ok {n : Int} {v : Value} {es : List E} {vr : Value} {hr0 : List Value} {R : List (List Nat)} {o lab : Nat → Nat} {w : World} (hs : Shp v es.length) (hr : RO w No v (esV es)) (hG : RightG n es) (hR : ROs w No vr hr0 R) (hRot : RotL n.toNat (tn es) R) (hL : Lev n.toNat (nb (tn es)) o lab) : PlaneIs n v vr (planeR n.toNat (tn es) lab R) w := fun w' S' hm =>
  rotPlane_ok n v es vr hr0 R o lab w' hs (hr.fwd hm (fun _ h => h.elim)) hG ⟨hR.shp, hR.len, hR.ro.fwd hm (fun _ h => h.elim), fun i x l h1 h2 => ⟨(hR.kid i x l h1 h2).1, (hR.kid i x l h1 h2).2.fwd hm (fun _ h => h.elim)⟩⟩ hRot hL
theorem planeIs_no {n : Int} {v : Value} {es : List E} {vr : Value} {hr0 : List Value} {ls : List (List Int)} {w : World} (hs : Shp v es.length) (hr : RO w No v (esV es)) (hm : es.length < 4611686018427387904) (hR : ROsI w No vr hr0 ls) (hlen : ∀ l ∈ ls, l.length ≤ 1048576) (hk : rotK n es ls ≠ 0) : PlaneIs n v vr (rotK n es ls) w := fun w' S' hmd =>
  rotPlane_no n v es vr hr0 ls w' hs (hr.fwd hmd (fun _ h => h.elim)) hm ⟨hR.shp, hR.len, hR.ro.fwd hmd (fun _ h => h.elim), fun i x l h1 h2 => ⟨(hR.kid i x l h1 h2).1, (hR.kid i x l h1 h2).2.fwd hmd (fun _ h => h.elim)⟩⟩ hlen hk
set_option maxRecDepth 100000
set_option maxHeartbeats 8000000
set_option linter.unusedVariables false
set_option linter.unusedSimpArgs false
attribute [local irreducible] Code.wp wpList bodyPost wpQuiet Exit.then Exit.inBlock Post wpAnyH wpOp
end Go.Proofs.YtpajjnkmaebhcabGreat
end
section
namespace Fil
/-- what is not next to one another, in the program's numbers -/
theorem okIn_nat {n : Int} {l : List Nat} (hn : 0 ≤ n) (h : Asc l) (hl : ∀ u ∈ l, u < n.toNat) : okIn n (l.map fun z : Nat => (z : Int)) := by
  refine ⟨fun x hx => ?_, ?_⟩
  · obtain ⟨u, hu, rfl⟩ := List.mem_map.1 hx
    have := hl u hu
    omega
  · rw [List.pairwise_map]
    exact h.imp fun h => by omega
end Fil
namespace Go.Proofs.YtpajjnkmaebhcabGreat
open Go Go.RowKit Go.Sl Fil
set_option maxRecDepth 100000
set_option maxHeartbeats 8000000
set_option linter.unusedVariables false
set_option linter.unusedSimpArgs false
attribute [local irreducible] Code.wp wpList bodyPost wpQuiet Exit.then Exit.inBlock Post wpAnyH wpOp
theorem indP_nat {n : Int} {es : List E} {l : List Nat} (hR : RightG n es) (h : ∀ u ∈ l, ∀ v ∈ l, u ∉ nearS (tn es) v) : indP es (l.map fun z : Nat => (z : Int)) := by
  rintro e he ⟨h1, h2⟩
  obtain ⟨u, hu, e1⟩ := List.mem_map.1 h1
  obtain ⟨v, hv, e2⟩ := List.mem_map.1 h2
  refine h v hv u hu ?_
  rw [mem_nearS, mem_nb hR.tn_ne, mem_tn]
  exact .inl ⟨e, he, by omega, by omega⟩
end Go.Proofs.YtpajjnkmaebhcabGreat
end
section
namespace Go.Proofs.YtpajjnkmaebhcabGreat
open Go.RowKit Go.Sl Fil
set_option maxRecDepth 100000
set_option maxHeartbeats 8000000
set_option linter.unusedVariables false
set_option linter.unusedSimpArgs false
attribute [local irreducible] Code.wp wpList bodyPost wpQuiet Exit.then Exit.inBlock Post wpAnyH wpOp
def es0 : List E := [(0, 1, 0), (1, 2, 0), (2, 3, 0)]
end Go.Proofs.YtpajjnkmaebhcabGreat
end
section
namespace Go.Proofs.YtpajjnkmaebhcabGreat
open Go.RowKit Go.Sl Fil
set_option maxRecDepth 100000
set_option maxHeartbeats 8000000
set_option linter.unusedVariables false
set_option linter.unusedSimpArgs false
attribute [local irreducible] Code.wp wpList bodyPost wpQuiet Exit.then Exit.inBlock Post wpAnyH wpOp
end Go.Proofs.YtpajjnkmaebhcabGreat
end
section
namespace Go.Proofs.YtpajjnkmaebhcabGreat
open Go.RowKit Go.Sl Fil
set_option maxRecDepth 100000
set_option maxHeartbeats 8000000
set_option linter.unusedVariables false
set_option linter.unusedSimpArgs false
attribute [local irreducible] Code.wp wpList bodyPost wpQuiet Exit.then Exit.inBlock Post wpAnyH wpOp
end Go.Proofs.YtpajjnkmaebhcabGreat
end
section
namespace Go.Proofs.YtpajjnkmaebhcabGreat
open Go.RowKit Go.Sl Fil
set_option maxRecDepth 100000
set_option maxHeartbeats 8000000
set_option linter.unusedVariables false
set_option linter.unusedSimpArgs false
attribute [local irreducible] Code.wp wpList bodyPost wpQuiet Exit.then Exit.inBlock Post wpAnyH wpOp
end Go.Proofs.YtpajjnkmaebhcabGreat
end
section
namespace Fil
def mostF (near : List (List Nat)) : Nat → Nat → List Nat → Nat
  | 0, _, inn => inn.length
  | k + 1, v, inn => if ∃ u ∈ inn, u ∈ near.getD v [] then mostF near k (v + 1) inn else max (mostF near k (v + 1) inn) (mostF near k (v + 1) (inn ++ [v]))
end Fil
namespace Go.Proofs.YtpajjnkmaebhcabGreat
open Go.RowKit Go.Sl Fil
set_option maxRecDepth 100000
set_option maxHeartbeats 8000000
set_option linter.unusedVariables false
set_option linter.unusedSimpArgs false
attribute [local irreducible] Code.wp wpList bodyPost wpQuiet Exit.then Exit.inBlock Post wpAnyH wpOp
theorem most_ok (vn : Value) (hn : List Value) (near : List (List Nat)) (hN : near.length ≤ 1048576) : ∀ (k v : Nat) (inn : List Nat) (vi : Value) (w : World), ROs w No vn hn near → v + k = near.length → Shp vi inn.length → RO w No vi (nV inn) → inn.length ≤ v →
    Calls Tryz.prog 50 #[vn, .int .i64 (v : Int), vi] w (Post w No (Just (.int .i64 (mostF near k v inn : Int)))) := by
  intro k
  induction k with
  | zero =>
    intro v inn vi w hr hv hs hri hil
    have hsn := hr.shp
    refine enter0 (vs := [_, _, _]) Tryz.func50 rfl Tryz.ntmps50 rfl ?_
    repeat' first
      | refine k_then ?_ | refine c_seq ?_ | refine c_region ?_ | refine s_nil ?_ | refine s_move (by exact rfl) (by exact rfl) ?_ | refine s_assign (by exact rfl) (by exact rfl) ?_ | refine s_eql (by exact rfl) (by exact rfl) (by exact rfl) ?_ | refine s_len (by exact rfl) (by exact rfl) (by assumption) ?_ | refine c_ret ?_ | refine k_then_ret ?_ | (refine c_cond_p (by exact rfl) (fun h => ?_) (fun h => ?_) <;> try (exfalso; omega))
    refine ret1 [] rfl rfl rfl ⟨rfl, rfl⟩
  | succ k ih =>
    intro v inn vi w hr hv hs hri hil
    have hsn := hr.shp
    have hnl := hr.len
    have hro := hr.ro
    obtain ⟨l, hl⟩ : ∃ l, near[v]? = some l := ⟨_, List.getElem?_eq_getElem (by omega)⟩
    have hgl : near.getD v [] = l := by rw [List.getD_eq_getElem?_getD, hl]; rfl
    obtain ⟨hd, hhd⟩ : ∃ hd, hn[v]? = some hd := ⟨_, List.getElem?_eq_getElem (by omega)⟩
    have hhd1 : hn[v * 1]? = some hd := by simpa using hhd
    obtain ⟨hks, hkr⟩ := hr.kid v hd l hhd hl
    refine enter0 (vs := [_, _, _]) Tryz.func50 rfl Tryz.ntmps50 rfl ?_
    repeat' first
      | refine k_then ?_ | refine c_seq ?_ | refine c_region ?_ | refine s_nil ?_ | refine s_move (by exact rfl) (by exact rfl) ?_ | refine s_assign (by exact rfl) (by exact rfl) ?_ | refine s_eql (by exact rfl) (by exact rfl) (by exact rfl) ?_ | refine s_add (by exact rfl) (by exact rfl) (by exact rfl) (by omega) ?_ | refine s_len (by exact rfl) (by exact rfl) (by assumption) ?_ | refine c_skip ?_ | (refine c_cond_p (by exact rfl) (fun h => ?_) (fun h => ?_) <;> try (exfalso; omega))
    refine s_call (by exact rfl) (by exact rfl) (fun w h => ih (v + 1) inn vi w (ros_old h hr) (by omega) hs (ro_old h hri) (by omega)) ?_
    repeat' first
      | refine k_then ?_ | refine c_seq ?_ | refine c_region ?_ | refine s_nil ?_ | refine s_assign (by exact rfl) (by exact rfl) ?_ | refine c_block ?_
    refine c_loop (fun i : Nat => i ≤ inn.length ∧ ∀ u ∈ inn.take i, u ∉ l) (fun i => [(0, vn), (1, .int .i64 (v : Int)), (2, vi), (7, .int .i64 (mostF near k (v + 1) inn : Int)), (8, .int .i64 (i : Int))]) (fun _ => []) (fun i => inn.length - i) 0 [] ⟨by omega, by simp⟩ rfl ⟨rfl, rfl, rfl, rfl, rfl, trivial⟩ ?_
    rintro i ⟨hi, hq⟩
    by_cases hlt : i < inn.length
    · obtain ⟨u, hu⟩ : ∃ u, inn[i]? = some u := ⟨_, List.getElem?_eq_getElem hlt⟩
      have hcu : (nV inn)[i * 1]? = some (.int .i64 (u : Int)) := by simp [nV, hu]
      repeat' first
        | refine k_then ?_ | refine c_seq ?_ | refine c_region ?_ | refine s_nil ?_ | refine s_move (by exact rfl) (by exact rfl) ?_ | refine s_lss (by exact rfl) (by exact rfl) (by exact rfl) ?_ | refine s_len (by exact rfl) (by exact rfl) (by assumption) ?_ | refine c_block ?_ | refine c_skip ?_ | (refine c_cond_p (by exact rfl) (fun h => ?_) (fun h => ?_) <;> try (exfalso; omega))
      refine p_begin0 [(0, true), (1, true), (2, true), (3, true), (4, true), (5, true), (6, true), (7, true), (8, false)] (by kernel_rfl) ?_
      repeat' first
        | (refine p_at (by exact rfl) ?_
           first
            | refine t_move (by exact rfl) (by exact rfl) (by exact fun _ h => h) ?_ | refine t_idx (by exact rfl) (by exact rfl) (by exact rfl) (by assumption) (by first | assumption | omega) (by exact fun _ h => h) ?_ | refine t_ld_ro (by exact rfl) (by exact rfl) (by assumption) (by assumption) (by exact fun _ h => h) ?_)
      refine p_call (gd := none) (by exact rfl) (by exact rfl) (by exact rfl) (fun w h => HasN_ok hd l u w hks (ro_old h hkr)) (by exact fun _ h => h) ?_
      by_cases hul : u ∈ l
      · rw [decide_eq_true hul]
        repeat' first
          | refine p_nil ?_
        repeat' first
          | refine k_then ?_ | refine c_seq ?_ | refine c_region ?_ | refine s_nil ?_ | refine s_move (by exact rfl) (by exact rfl) ?_ | refine s_assign (by exact rfl) (by exact rfl) ?_ | refine c_ret ?_ | refine k_then_ret ?_ | refine k_blk_ret ?_ | refine c_cond_t (by exact rfl) ?_
        refine ret1 [] rfl rfl rfl ⟨?_, rfl⟩
        rw [mostF, if_pos ⟨u, List.mem_of_getElem? hu, by rw [hgl]; exact hul⟩]
      · rw [decide_eq_false hul]
        repeat' first
          | refine p_nil ?_
        repeat' first
          | refine k_then ?_ | refine c_region ?_ | refine s_nil ?_ | refine s_move (by exact rfl) (by exact rfl) ?_ | refine s_assign (by exact rfl) (by exact rfl) ?_ | refine s_add (by exact rfl) (by exact rfl) (by exact rfl) (by omega) ?_ | refine c_skip ?_ | refine k_blk ?_ | refine c_cond_f (by exact rfl) ?_
        refine c_round (i + 1) [] (by exact rfl) ⟨rfl, rfl, rfl, rfl, rfl, trivial⟩ ⟨by omega, ?_⟩ (by omega)
        rw [List.take_add_one, hu]
        intro a ha
        rcases List.mem_append.1 ha with ha | ha
        · exact hq a ha
        · obtain rfl : a = u := by simpa using ha
          exact hul
    · rw [List.take_of_length_le (by omega)] at hq
      have hval : mostF near (k + 1) v inn = max (mostF near k (v + 1) inn) (mostF near k (v + 1) (inn ++ [v])) := by
        rw [mostF, if_neg]
        rintro ⟨u, h1, h2⟩
        rw [hgl] at h2
        exact hq u h1 h2
      repeat' first
        | refine k_then ?_ | refine c_seq ?_ | refine c_region ?_ | refine s_nil ?_ | refine s_move (by exact rfl) (by exact rfl) ?_ | refine s_lss (by exact rfl) (by exact rfl) (by exact rfl) ?_ | refine s_add (by exact rfl) (by exact rfl) (by exact rfl) (by omega) ?_ | refine s_len (by exact rfl) (by exact rfl) (by assumption) ?_ | refine c_exit ?_ | refine k_then_exit ?_ | refine k_blk_eq ?_ | (refine c_cond_p (by exact rfl) (fun h => ?_) (fun h => ?_) <;> try (exfalso; omega))
      refine o_mk0 (by exact rfl) fun v0 hv0 => ?_
      repeat' first
        | refine s_move (by exact rfl) (by exact rfl) ?_
      have n1 : ∀ u ∈ nV inn, u.oneCell' = true := nV_one _
      refine o_append_ro (bytes := 8) (i := 0) (by exact rfl) (by exact rfl) (by exact rfl) (by exact rfl) hri hs (by simp [nV]) n1 (by omega) fun v1 hv1 => ?_
      repeat' first
        | refine s_move (by exact rfl) (by exact rfl) ?_
      refine o_mk [.int .i64 (v : Int)] (by exact rfl) (by exact rfl) rfl (by simp [Value.cells]) (by simp) (by simp) fun v2 hv2 => ?_
      skip
      refine o_append_row (bytes := 8) (i := 1) (by exact rfl) (by exact rfl) (by exact rfl) (by exact rfl) (by exact .head _) (by exact rfl) (by simp [Value.cells, Value.oneCell']) (by simp <;> omega) fun v3 hv3 => ?_
      skip
      refine s_call (by exact rfl) (by exact rfl) (fun w h => ih (v + 1) (inn ++ [v]) v3 w (ros_old h hr) (by omega) (by rw [List.length_append]; simpa using hv3) (by
        have := ro_own h (.tail _ (.head _))
        rw [show nV (inn ++ [v]) = [] ++ nV inn ++ [.int .i64 (v : Int)] by simp [nV]]
        exact this) (by rw [List.length_append]; simp <;> omega)) ?_
      repeat' first
        | refine k_then ?_ | refine s_nil ?_ | refine s_assign (by exact rfl) (by exact rfl) ?_ | refine s_max (by exact rfl) (by exact rfl) (by exact rfl) ?_ | refine c_ret ?_
      refine ret1 [] rfl rfl rfl ⟨?_, rfl⟩
      rw [hval]
      exact congrArg (Value.int .i64) (by omega)
theorem Most_ok (n : Int) (v : Value) (es : List E) (w : World) (hs : Shp v es.length) (hr : RO w No v (esV es)) (hR : RightG n es) :
    Calls Tryz.prog 26 #[.agg #[.int .i64 n, v]] w (Post w No (Just (.int .i64 (mostF ((List.range n.toNat).map (nearS (tn es))) n.toNat 0 [] : Int)))) := by
  have hlo := hR.lo
  have hhi := hR.hi
  refine enter0 (vs := [_]) Tryz.func26 rfl Tryz.ntmps26 rfl ?_
  repeat' first
    | refine k_then ?_ | refine c_seq ?_ | refine c_region ?_ | refine s_nil ?_ | refine s_assign (by exact rfl) (by exact rfl) ?_ | refine s_ldk_box (by exact rfl) (by exact rfl) (by exact .head _) (by exact rfl) (by exact rfl) ?_ | refine o_box (by exact rfl) (by exact rfl) (fun b => ?_)
  refine o_call (by exact rfl) (by exact rfl) (fun w h => refNear_ok n v es w hs (ro_old h hr) hR) ?_
  rintro vn _ ⟨hn, hnl, rfl⟩
  skip
  refine s_call (by exact rfl) (by exact rfl) (fun w h => most_ok vn hn ((List.range n.toNat).map (nearS (tn es))) (by simp; omega) n.toNat 0 [] (.slice none 0 0) w (ros_own h (.head _) (by simp) (.tail _ (.head _))) (by simp) ⟨by simp [maxLen], .inl ⟨rfl, rfl⟩⟩ (fun _ _ _ j u h => by simp [nV] at h) (by simp)) ?_
  repeat' first
    | refine k_then ?_ | refine s_nil ?_ | refine s_assign (by exact rfl) (by exact rfl) ?_ | refine c_ret ?_
  refine ret1 [] rfl rfl rfl ⟨rfl, rfl⟩
end Go.Proofs.YtpajjnkmaebhcabGreat
end
section
namespace Fil
theorem mostF_val {nb : Nat → List Nat} {near : List (List Nat)} : ∀ (k v : Nat) (inn : List Nat), v + k ≤ near.length → (∀ u, u < near.length → near.getD u [] = nb u) → mostF near k v inn = inn.length + val nb (List.range' v k) (fun u => decide (u ∈ inn))
  | 0, v, inn, _, _ => rfl
  | k + 1, v, inn, hk, hn => by
    have h1 := mostF_val (nb := nb) k (v + 1) inn (by omega) hn
    have h2 := mostF_val (nb := nb) k (v + 1) (inn ++ [v]) (by omega) hn
    have hS : S1 v (fun u => decide (u ∈ inn)) = fun u => decide (u ∈ inn ++ [v]) := by
      funext u
      rw [S1, Bool.eq_iff_iff]
      simp
    have hall : (nb v).all (fun u => !decide (u ∈ inn)) = !decide (∃ u ∈ inn, u ∈ near.getD v []) := by
      rw [hn v (by omega), Bool.eq_iff_iff]
      simp only [List.all_eq_true, Bool.not_eq_true', decide_eq_false_iff_not]
      exact ⟨fun h ⟨u, h1, h2⟩ => h u h2 h1, fun h u h1 h2 => h ⟨u, h2, h1⟩⟩
    rw [mostF, List.range'_succ, val, hall, hS, h1, h2]
    by_cases h : ∃ u ∈ inn, u ∈ near.getD v []
    · rw [if_pos h, decide_eq_true h, if_neg (by simp)]
    · rw [if_neg h, decide_eq_false h, if_pos (by simp), List.length_append, List.length_singleton]
      omega
theorem MaxIn.most {n : Int} {es : List E} (hR : RightG n es) {l : List Nat} (h : MaxIn (nearS (tn es)) n.toNat (fun _ => true) l) : mostF ((List.range n.toNat).map (nearS (tn es))) n.toNat 0 [] = l.length := by
  rw [mostF_val (nb := nearS (tn es)) _ _ _ (by simp) (fun u hu => nearL_get (by simpa using hu))]
  have e : (fun u => decide (u ∈ ([] : List Nat))) = fun _ => false := by funext u; simp
  rw [e, List.length_nil, Nat.zero_add]
  have hnd : (List.range' 0 n.toNat).Nodup := by rw [← List.range_eq_range']; exact List.nodup_range
  have h1 := h.top _ (pickE_ind (nb := nearS (tn es)) (fun u v h => (nearS_lt hR h).2.2.2) (fun v h => (nearS_lt hR h).2.2.1 rfl) (List.range' 0 n.toNat) (fun _ => false) hnd) (fun u hu => by
    have := (pickE_sub (nearS (tn es)) (List.range' 0 n.toNat) (fun _ => false)).mem hu
    rw [← List.range_eq_range'] at this
    exact ⟨by simpa using this, rfl⟩)
  rw [pickE_length] at h1
  have h2 := val_upper h.ind (E := List.range' 0 n.toNat) fun u hu => by rw [← List.range_eq_range']; simpa using (h.mem u hu).1
  omega
end Fil
namespace Go.Proofs.YtpajjnkmaebhcabGreat
open Go Go.RowKit Go.Sl Fil
set_option maxRecDepth 100000
set_option maxHeartbeats 8000000
set_option linter.unusedVariables false
set_option linter.unusedSimpArgs false
attribute [local irreducible] Code.wp wpList bodyPost wpQuiet Exit.then Exit.inBlock Post wpAnyH wpOp
end Go.Proofs.YtpajjnkmaebhcabGreat
end
