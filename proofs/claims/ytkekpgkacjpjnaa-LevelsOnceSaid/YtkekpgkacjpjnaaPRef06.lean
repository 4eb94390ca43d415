/- Plain: labels and levels by going over all edges as often as there are vertices. -/
import Derived.Test.YtkekpgkacjpjnaaPLev2
namespace Fil
def relaxL (l : List Nat) (e : Nat × Nat) : List Nat := (l.set e.1 (min (l.getD e.1 0) (l.getD e.2 0))).set e.2 (min (l.getD e.1 0) (l.getD e.2 0))
/-- as the code has it: the lesser of an end's level and one more than the other's -/
def relaxO (l : List Nat) (e : Nat × Nat) : List Nat :=
  let l1 := l.set e.1 (min (l.getD e.1 0) (l.getD e.2 0 + 1))
  l1.set e.2 (min (l1.getD e.2 0) (l1.getD e.1 0 + 1))
def rounds (f : List Nat → Nat × Nat → List Nat) (es : List (Nat × Nat)) : Nat → List Nat → List Nat
  | 0, l => l
  | k + 1, l => es.foldl f (rounds f es k l)

/-- what a step keeps and gives, said of values t: where R a b, an exact a gives an exact b -/
structure Relax (N : Nat) (f : List Nat → Nat × Nat → List Nat) (t : Nat → Nat) (es : List (Nat × Nat)) (R : Nat → Nat → Prop) : Prop where
  len : ∀ l e, (f l e).length = l.length
  ge : ∀ l, l.length = N → ∀ e ∈ es, (∀ v, v < N → t v ≤ l.getD v 0) → ∀ v, v < N → t v ≤ (f l e).getD v 0
  le : ∀ l e v, (f l e).getD v 0 ≤ l.getD v 0
  give : ∀ l, l.length = N → ∀ e ∈ es, (∀ v, v < N → t v ≤ l.getD v 0) → ∀ a b, e = (a, b) ∨ e = (b, a) → R a b → l.getD a 0 = t a → (f l e).getD b 0 = t b

theorem Relax.keep {N : Nat} {f : List Nat → Nat × Nat → List Nat} {t : Nat → Nat} {es : List (Nat × Nat)} {R : Nat → Nat → Prop} (h : Relax N f t es R) : ∀ (r : List (Nat × Nat)), (∀ e ∈ r, e ∈ es) → ∀ l, l.length = N → (∀ v, v < N → t v ≤ l.getD v 0) →
    (r.foldl f l).length = N ∧ (∀ v, v < N → t v ≤ (r.foldl f l).getD v 0) ∧ ∀ v, v < N → l.getD v 0 = t v → (r.foldl f l).getD v 0 = t v
  | [], _, l, hl, hg => ⟨hl, hg, fun _ _ h => h⟩
  | e :: r, hr, l, hl, hg => by
    have hg' := h.ge l hl e (hr e (by simp)) hg
    obtain ⟨h1, h2, h3⟩ := h.keep r (fun x hx => hr x (by simp [hx])) (f l e) (by rw [h.len, hl]) hg'
    refine ⟨h1, h2, fun v hv hx => h3 v hv ?_⟩
    have := hg' v hv
    have := h.le l e v
    omega

theorem Relax.gives {N : Nat} {f : List Nat → Nat × Nat → List Nat} {t : Nat → Nat} {es : List (Nat × Nat)} {R : Nat → Nat → Prop} (h : Relax N f t es R) {a b : Nat} (ha : a < N) (hb : b < N) (hR : R a b) : ∀ (r : List (Nat × Nat)), (∀ e ∈ r, e ∈ es) → ∀ l, l.length = N → (∀ v, v < N → t v ≤ l.getD v 0) → ((a, b) ∈ r ∨ (b, a) ∈ r) → l.getD a 0 = t a → (r.foldl f l).getD b 0 = t b
  | [], _, _, _, _, hm, _ => by simp at hm
  | e :: r, hr, l, hl, hg, hm, hx => by
    have hg' := h.ge l hl e (hr e (by simp)) hg
    have hl' : (f l e).length = N := by rw [h.len, hl]
    have hr' : ∀ x ∈ r, x ∈ es := fun x hx => hr x (by simp [hx])
    by_cases he : e = (a, b) ∨ e = (b, a)
    · exact (h.keep r hr' (f l e) hl' hg').2.2 b hb (h.give l hl e (hr e (by simp)) hg a b he hR hx)
    · refine h.gives ha hb hR r hr' (f l e) hl' hg' ?_ ?_
      · rcases hm with hm | hm
        · rcases List.mem_cons.1 hm with h1 | h1
          · exact absurd (.inl h1.symm) he
          · exact .inl h1
        · rcases List.mem_cons.1 hm with h1 | h1
          · exact absurd (.inr h1.symm) he
          · exact .inr h1
      · have := hg' a ha
        have := h.le l e a
        omega

theorem Relax.rounds {N : Nat} {f : List Nat → Nat × Nat → List Nat} {t o : Nat → Nat} {es : List (Nat × Nat)} {R : Nat → Nat → Prop} (h : Relax N f t es R) {l : List Nat} (hl : l.length = N) (hg : ∀ v, v < N → t v ≤ l.getD v 0) (h0 : ∀ v, v < N → o v = 0 → l.getD v 0 = t v)
    (hs : ∀ v k, v < N → o v = k + 1 → ∃ u, u < N ∧ o u = k ∧ R u v ∧ ((u, v) ∈ es ∨ (v, u) ∈ es)) : ∀ k, (Fil.rounds f es k l).length = N ∧ (∀ v, v < N → t v ≤ (Fil.rounds f es k l).getD v 0) ∧ ∀ v, v < N → o v ≤ k → (Fil.rounds f es k l).getD v 0 = t v
  | 0 => ⟨hl, hg, fun v hv hk => h0 v hv (by omega)⟩
  | k + 1 => by
    obtain ⟨h1, h2, h3⟩ := h.rounds hl hg h0 hs k
    obtain ⟨h4, h5, h6⟩ := h.keep es (fun _ h => h) _ h1 h2
    refine ⟨h4, h5, fun v hv hk => ?_⟩
    by_cases e : o v ≤ k
    · exact h6 v hv (h3 v hv e)
    · obtain ⟨u, hu, hok, hR, hm⟩ := hs v k hv (by omega)
      exact h.gives hu hv hR es (fun _ h => h) _ h1 h2 hm (h3 u hu (by omega))
theorem relaxL_at (l : List Nat) (a b v : Nat) (ha : a < l.length) (hb : b < l.length) : (relaxL l (a, b)).getD v 0 = if v = a ∨ v = b then min (l.getD a 0) (l.getD b 0) else l.getD v 0 := by
  simp only [relaxL, getD_set, List.length_set]
  by_cases h1 : b = v
  · subst h1; simp [hb]
  · by_cases h2 : a = v
    · subst h2; simp [h1, ha]
    · have h1' : ¬ v = b := fun e => h1 e.symm
      have h2' : ¬ v = a := fun e => h2 e.symm
      simp [h1, h2, h1', h2']
theorem relaxL_le (l : List Nat) (e : Nat × Nat) (v : Nat) : (relaxL l e).getD v 0 ≤ l.getD v 0 := by
  simp only [relaxL, getD_set, List.length_set]
  split
  · rename_i h; obtain ⟨rfl, _⟩ := h; exact Nat.min_le_right _ _
  · split
    · rename_i h; obtain ⟨rfl, _⟩ := h; exact Nat.min_le_left _ _
    · exact Nat.le_refl _
theorem Good.edge_mem {N : Nat} {es : List (Nat × Nat)} (h : Good N es) {a b : Nat} (he : (a, b) ∈ es) : b ∈ nb es a ∧ a ∈ nb es b := by
  have hl : ∀ e ∈ es, e.1 ≠ e.2 := fun e he => by have := h.lt e he; omega
  rw [mem_nb hl, mem_nb hl]
  exact ⟨.inl he, .inr he⟩
theorem relaxL_ok {N : Nat} {es : List (Nat × Nat)} {o lab : Nat → Nat} (hG : Good N es) (h : Lev N (nb es) o lab) : Relax N relaxL lab es fun _ _ => True where
  len l e := by simp [relaxL]
  le := relaxL_le
  ge l hl e he hg v hv := by
    obtain ⟨a, b⟩ := e
    have := hG.lt _ he
    dsimp only at this
    have ha := hg a (by omega)
    have hb := hg b (by omega)
    have hab := (h.edge a (by omega) b (hG.edge_mem he).1).1
    rw [relaxL_at l a b v (by omega) (by omega)]
    split
    · rename_i hv'
      rcases hv' with rfl | rfl <;> omega
    · exact hg v hv
  give l hl e he hg a b hab _ hx := by
    have key : ∀ x y, (x, y) ∈ es → ((x = a ∧ y = b) ∨ (x = b ∧ y = a)) → (relaxL l (x, y)).getD b 0 = lab b := by
      intro x y hxy hh
      have := hG.lt _ hxy
      dsimp only at this
      have h1 := hg x (by omega)
      have h2 := hg y (by omega)
      have h3 := (h.edge x (by omega) y (hG.edge_mem hxy).1).1
      rw [relaxL_at l x y b (by omega) (by omega)]
      rcases hh with ⟨rfl, rfl⟩ | ⟨rfl, rfl⟩
      · rw [if_pos (.inr rfl)]; omega
      · rw [if_pos (.inl rfl)]; omega
    rcases hab with rfl | rfl
    · exact key a b he (.inl ⟨rfl, rfl⟩)
    · exact key b a he (.inr ⟨rfl, rfl⟩)
theorem relaxO_at (l : List Nat) (a b v : Nat) (ha : a < l.length) (hb : b < l.length) (hab : a ≠ b) : (relaxO l (a, b)).getD v 0 = if v = a then min (l.getD a 0) (l.getD b 0 + 1) else if v = b then min (l.getD b 0) (min (l.getD a 0) (l.getD b 0 + 1) + 1) else l.getD v 0 := by
  simp only [relaxO, getD_set, List.length_set]
  by_cases h1 : v = a
  · subst h1
    have : ¬ b = v := fun e => hab e.symm
    simp [this, ha]
  · have h1' : ¬ a = v := fun e => h1 e.symm
    by_cases h2 : v = b
    · subst h2
      simp [h1, h1', ha, hb]
    · have h2' : ¬ b = v := fun e => h2 e.symm
      simp [h1, h2, h1', h2']
theorem relaxO_le (l : List Nat) (e : Nat × Nat) (v : Nat) : (relaxO l e).getD v 0 ≤ l.getD v 0 := by
  have h1 : (l.set e.1 (min (l.getD e.1 0) (l.getD e.2 0 + 1))).getD v 0 ≤ l.getD v 0 := by
    rw [getD_set]
    split
    · rename_i h; obtain ⟨rfl, _⟩ := h; exact Nat.min_le_left _ _
    · exact Nat.le_refl _
  refine Nat.le_trans ?_ h1
  simp only [relaxO]
  generalize l.set e.1 (min (l.getD e.1 0) (l.getD e.2 0 + 1)) = l1
  rw [getD_set]
  split
  · rename_i h; obtain ⟨rfl, _⟩ := h; exact Nat.min_le_left _ _
  · exact Nat.le_refl _
theorem relaxO_ok {N : Nat} {es : List (Nat × Nat)} {o lab : Nat → Nat} (hG : Good N es) (h : Lev N (nb es) o lab) : Relax N relaxO o es fun a b => o b = o a + 1 where
  len l e := by simp [relaxO]
  le := relaxO_le
  ge l hl e he hg v hv := by
    obtain ⟨a, b⟩ := e
    have := hG.lt _ he
    dsimp only at this
    have ha := hg a (by omega)
    have hb := hg b (by omega)
    have h1 := (h.edge a (by omega) b (hG.edge_mem he).1).2
    have h2 := (h.edge b (by omega) a (hG.edge_mem he).2).2
    rw [relaxO_at l a b v (by omega) (by omega) (by omega)]
    split
    · rename_i e; subst e; omega
    · split
      · rename_i e; subst e; omega
      · exact hg v hv
  give l hl e he hg a b hab hR hx := by
    rcases hab with rfl | rfl
    · have := hG.lt _ he
      dsimp only at this
      have hb := hg b (by omega)
      rw [relaxO_at l a b b (by omega) (by omega) (by omega), if_neg (by omega), if_pos rfl]
      omega
    · have := hG.lt _ he
      dsimp only at this
      have hb := hg b (by omega)
      rw [relaxO_at l b a b (by omega) (by omega) (by omega), if_pos rfl]
      omega
theorem list_of_getD {N : Nat} {l : List Nat} {t : Nat → Nat} (hl : l.length = N) (h : ∀ v, v < N → l.getD v 0 = t v) : l = (List.range N).map t := by
  apply List.ext_getElem?
  intro k
  by_cases hk : k < N
  · have := h k hk
    rw [List.getElem?_eq_getElem (by omega)]
    simp only [List.getD_eq_getElem?_getD, List.getElem?_eq_getElem (show k < l.length by omega), Option.getD_some] at this
    simp [hk, this]
  · rw [List.getElem?_eq_none (by omega), List.getElem?_eq_none (by simp; omega)]
theorem Lev.steps {N : Nat} {es : List (Nat × Nat)} {o lab : Nat → Nat} (hG : Good N es) (h : Lev N (nb es) o lab) : ∀ v k, v < N → o v = k + 1 → ∃ u, u < N ∧ o u = k ∧ ((u, v) ∈ es ∨ (v, u) ∈ es) := by
  intro v k hv hk
  obtain ⟨u, hu, hou⟩ := h.up v k hv hk
  have hm := (mem_nb (fun e he => by have := hG.lt e he; omega)).1 hu
  exact ⟨u, hG.adj.lt v hv u hu, hou, hm.symm⟩
theorem ref_labels {N : Nat} {es : List (Nat × Nat)} {o lab : Nat → Nat} (hG : Good N es) (h : Lev N (nb es) o lab) : rounds relaxL es N (List.range N) = (List.range N).map lab := by
  have hgd : ∀ v, v < N → (List.range N).getD v 0 = v := fun v hv => by simp [hv]
  obtain ⟨h1, _, h3⟩ := (relaxL_ok hG h).rounds (o := o) (l := List.range N) (by simp) (fun v hv => by rw [hgd v hv]; exact h.le v hv) (fun v hv h0 => by rw [hgd v hv]; exact ((h.root v hv).1 h0).symm)
    (fun v k hv hk => (h.steps hG v k hv hk).imp fun u hu => ⟨hu.1, hu.2.1, trivial, hu.2.2⟩) N
  exact list_of_getD h1 fun v hv => h3 v hv (Nat.le_of_lt (h.lt hG.adj v hv))
theorem ref_levels {N : Nat} {es : List (Nat × Nat)} {o lab : Nat → Nat} (hG : Good N es) (h : Lev N (nb es) o lab) : rounds relaxO es N ((List.range N).map fun v => if lab v ≠ v then N else 0) = (List.range N).map o := by
  have hgd : ∀ v, v < N → ((List.range N).map fun v => if lab v ≠ v then N else 0).getD v 0 = if lab v ≠ v then N else 0 := fun v hv => by simp [hv]
  obtain ⟨h1, _, h3⟩ := (relaxO_ok hG h).rounds (o := o) (l := (List.range N).map fun v => if lab v ≠ v then N else 0) (by simp) (fun v hv => by
      rw [hgd v hv]
      split
      · exact Nat.le_of_lt (h.lt hG.adj v hv)
      · rename_i e
        have := (h.root v hv).2 (by simpa using e)
        omega) (fun v hv h0 => by
      rw [hgd v hv, if_neg (by simpa using (h.root v hv).1 h0), h0])
    (fun v k hv hk => (h.steps hG v k hv hk).imp fun u hu => ⟨hu.1, hu.2.1, by omega, hu.2.2⟩) N
  exact list_of_getD h1 fun v hv => h3 v hv (Nat.le_of_lt (h.lt hG.adj v hv))
end Fil
