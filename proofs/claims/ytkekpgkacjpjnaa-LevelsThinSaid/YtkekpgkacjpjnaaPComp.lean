/- Plain: what hangs together, as lists. -/
import Derived.Test.YtkekpgkacjpjnaaPFill
namespace Fil
/-- the lists of those of the labels below i -/
def compsL (N i : Nat) (met : List Bool) (lab : Nat → Nat) : List (List Nat) := ((List.range i).filter fun v => lab v == v).map fun r => (List.range N).filter fun u => met.getD u false && lab u == r

theorem comps_upd {N i : Nat} {met met' : List Bool} {lab lab' : Nat → Nat} (h1 : ∀ u, met.getD u false = true → met'.getD u false = true ∧ lab' u = lab u) (h2 : ∀ u, met'.getD u false = true → met.getD u false = false → lab' u = i) (h3 : ∀ v, v < i → met.getD v false = true) : compsL N i met' lab' = compsL N i met lab := by
  have e1 : (List.range i).filter (fun v => lab' v == v) = (List.range i).filter fun v => lab v == v := by
    apply List.filter_congr
    intro v hv
    rw [(h1 v (h3 v (by simpa using hv))).2]
  rw [compsL, e1, compsL]
  apply List.map_congr_left
  intro r hr
  have hri : r < i := by
    have := (List.mem_filter.1 hr).1
    simpa using this
  apply List.filter_congr
  intro u _
  cases hm : met.getD u false
  · cases hm' : met'.getD u false
    · simp
    · have := h2 u hm' hm
      simp only [Bool.true_and, Bool.false_and, this]
      simp; omega
  · obtain ⟨h4, h5⟩ := h1 u hm
    rw [h4, h5]

theorem comps_next {N i : Nat} {met : List Bool} {lab : Nat → Nat} (h : lab i ≠ i) : compsL N (i + 1) met lab = compsL N i met lab := by
  have : (lab i == i) = false := by simpa using h
  rw [compsL, List.range_succ, List.filter_append]
  simp [this, compsL]

/-- a list of just those of label i, sorted -/
theorem sorted_of {N i : Nat} {met : List Bool} {lab : Nat → Nat} {part : List Nat} (hn : part.Nodup) (hp : ∀ u, u ∈ part ↔ u < N ∧ met.getD u false = true ∧ lab u = i) : part.mergeSort (fun x y => decide (x ≤ y)) = (List.range N).filter fun u => met.getD u false && lab u == i := by
  refine List.Perm.eq_of_pairwise (le := fun a b => a ≤ b) (fun a b _ _ h1 h2 => Nat.le_antisymm h1 h2) ?_ ?_ ?_
  · have := List.pairwise_mergeSort (le := fun (x y : Nat) => decide (x ≤ y)) (fun a b c h1 h2 => by simp at *; omega) (fun a b => by simp; omega) part
    exact this.imp fun h => by simpa using h
  · exact (List.pairwise_lt_range.imp fun h => Nat.le_of_lt h).filter _
  · refine (List.mergeSort_perm part _).trans ((List.perm_ext_iff_of_nodup hn (List.nodup_range.filter _)).2 fun u => ?_)
    rw [hp]
    simp

theorem comps_add {N i : Nat} {met : List Bool} {lab : Nat → Nat} {part : List Nat} (hi : lab i = i) (hn : part.Nodup) (hp : ∀ u, u ∈ part ↔ u < N ∧ met.getD u false = true ∧ lab u = i) : compsL N (i + 1) met lab = compsL N i met lab ++ [part.mergeSort fun x y => decide (x ≤ y)] := by
  rw [sorted_of hn hp, compsL, List.range_succ, List.filter_append]
  simp [hi, compsL]
theorem comps_zero (N : Nat) (met : List Bool) (lab : Nat → Nat) : compsL N 0 met lab = [] := rfl

/-- part: just those that were met from i on -/
structure Part (N i : Nat) (met : List Bool) (lab : Nat → Nat) (part : List Nat) : Prop where
  nodup : part.Nodup
  mem : ∀ u, u ∈ part ↔ u < N ∧ met.getD u false = true ∧ lab u = i
  le : ∀ u, met.getD u false = true → lab u ≤ i

theorem Part.start {N i : Nat} {met : List Bool} {lab : Nat → Nat} (hi : i < N) (hl : met.length = N) (hL : ∀ v, met.getD v false = true → lab v < i) : Part N i (met.set i true) (fun x => if x = i then i else lab x) [i] where
  nodup := by simp
  mem u := by
    rw [getD_set]
    by_cases e : u = i
    · subst e; simp [hi, hl]
    · have e' : ¬ i = u := fun h => e h.symm
      simp only [List.mem_singleton, e, e', false_and, if_false, false_iff]
      rintro ⟨h1, h2, h3⟩
      have := hL u h2
      omega
  le u hu := by
    rw [getD_set] at hu
    split
    · exact Nat.le_refl _
    · rename_i e
      rw [if_neg (by omega)] at hu
      exact Nat.le_of_lt (hL u hu)
theorem Part.new {N i u : Nat} {met : List Bool} {lab : Nat → Nat} {part : List Nat} (h : Part N i met lab part) (hu : u < N) (hl : met.length = N) (hm : met.getD u false = false) : Part N i (met.set u true) (fun x => if x = u then i else lab x) (part ++ [u]) where
  nodup := by
    refine List.nodup_append.2 ⟨h.nodup, by simp, ?_⟩
    intro a ha b hb e
    obtain rfl : b = u := by simpa using hb
    subst e
    have := ((h.mem a).1 ha).2.1
    rw [hm] at this; simp at this
  mem x := by
    rw [getD_set, List.mem_append, h.mem]
    by_cases e : x = u
    · subst e; simp [hu, hl]
    · have e' : ¬ u = x := fun h => e h.symm
      simp [e, e']
  le x hx := by
    rw [getD_set] at hx
    split
    · exact Nat.le_refl _
    · rename_i e
      rw [if_neg (by omega)] at hx
      exact h.le x hx
theorem comps_step {N i u : Nat} {met : List Bool} {lab : Nat → Nat} (hm : met.getD u false = false) (h3 : ∀ v, v < i → met.getD v false = true) : compsL N i (met.set u true) (fun x => if x = u then i else lab x) = compsL N i met lab := by
  refine comps_upd (fun x hx => ?_) (fun x hx hx' => ?_) h3
  · have : x ≠ u := fun e => by subst e; rw [hm] at hx; simp at hx
    refine ⟨?_, by simp [this]⟩
    rw [getD_set]
    split <;> first | rfl | exact hx
  · rw [getD_set] at hx
    split at hx
    · rename_i h; simp [h.1]
    · rw [hx'] at hx; simp at hx
theorem Part.length_le {N i : Nat} {met : List Bool} {lab : Nat → Nat} {part : List Nat} (h : Part N i met lab part) : part.length ≤ N := by
  have hp := (List.perm_ext_iff_of_nodup h.nodup (List.nodup_range.filter fun u => met.getD u false && lab u == i) (l₂ := (List.range N).filter fun u => met.getD u false && lab u == i)).2 fun u => by
    rw [h.mem]; simp
  have h1 := hp.length_eq
  have h2 := List.length_filter_le (fun u => met.getD u false && lab u == i) (List.range N)
  rw [List.length_range] at h2
  omega
theorem compsL_length (N i : Nat) (met : List Bool) (lab : Nat → Nat) : (compsL N i met lab).length ≤ i := by
  rw [compsL, List.length_map]
  have := List.length_filter_le (fun v => lab v == v) (List.range i)
  rwa [List.length_range] at this
end Fil
