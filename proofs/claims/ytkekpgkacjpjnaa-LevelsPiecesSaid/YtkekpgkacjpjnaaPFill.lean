/- Plain: lists that are filled one by one; counting; levels are below the number of vertices. -/
import Derived.Test.YtkekpgkacjpjnaaPNear
namespace Fil
def fillL {α : Type} (g : Nat → α) (d : α) (N i : Nat) : List α := (List.range N).map fun j => if j < i then g j else d
theorem fill_length {α : Type} (g : Nat → α) (d : α) (N i : Nat) : (fillL g d N i).length = N := by simp [fillL]
theorem fill_zero {α : Type} (g : Nat → α) (d : α) (N : Nat) : fillL g d N 0 = List.replicate N d := by
  simp [fillL, List.map_const']
theorem fillL_all {α : Type} (g : Nat → α) (d : α) (N : Nat) : fillL g d N N = (List.range N).map g := by
  apply List.map_congr_left
  intro u hu
  rw [if_pos (by simpa using hu)]
theorem fill_set {α : Type} (g : Nat → α) (d : α) {N i : Nat} (hi : i < N) : (fillL g d N i).set i (g i) = fillL g d N (i + 1) := by
  apply List.ext_getElem?
  intro k
  simp only [fillL, List.getElem?_set, List.getElem?_map, List.length_map, List.length_range]
  by_cases hk : k < N
  · rw [List.getElem?_eq_getElem (by simpa using hk)]
    simp only [List.getElem_range, Option.map_some]
    by_cases h1 : i = k
    · subst h1; simp [hi]
    · rw [if_neg h1]
      by_cases h2 : k < i
      · rw [if_pos h2, if_pos (by omega)]
      · rw [if_neg h2, if_neg (by omega)]
  · rw [List.getElem?_eq_none (by simpa using hk)]
    have : i ≠ k := by omega
    simp [this]
theorem map_getD {α β : Type} (l : List α) (d : α) (f : α → β) : (List.range l.length).map (fun j => f (l.getD j d)) = l.map f := by
  apply List.ext_getElem?
  intro k
  by_cases hk : k < l.length
  · simp [hk]
  · simp [hk]

theorem countP_lt {α : Type} {p q : α → Bool} (hpq : ∀ x, p x = true → q x = true) : ∀ {l : List α} {x : α}, x ∈ l → p x = false → q x = true → l.countP p + 1 ≤ l.countP q
  | y :: l, x, hx, h1, h2 => by
    have mono : l.countP p ≤ l.countP q := List.countP_mono_left fun x _ h => hpq x h
    simp only [List.countP_cons]
    rcases List.mem_cons.1 hx with rfl | hx
    · rw [h1, h2]; simp; omega
    · have ih := countP_lt hpq hx h1 h2
      have : (if p y = true then 1 else 0) ≤ (if q y = true then 1 else 0) := by
        split
        · rename_i h; rw [if_pos (hpq y h)]; exact Nat.le_refl _
        · exact Nat.zero_le _
      omega

theorem Lev.lt {N : Nat} {A : Nat → List Nat} {o lab : Nat → Nat} (hA : Adj N A) (h : Lev N A o lab) : ∀ v, v < N → o v < N := by
  have down : ∀ k v, v < N → o v = k → ∀ j, j ≤ k → ∃ u, u < N ∧ o u = j := by
    intro k
    induction k with
    | zero => intro v hv hk j hj; exact ⟨v, hv, by omega⟩
    | succ k ih =>
      intro v hv hk j hj
      by_cases e : j = k + 1
      · exact ⟨v, hv, by omega⟩
      · obtain ⟨u, hu, hk'⟩ := h.up v k hv hk
        exact ih u (hA.lt v hv u hu) hk' j (by omega)
  intro v hv
  have cnt : ∀ j, j ≤ o v + 1 → j ≤ (List.range N).countP fun u => decide (o u < j) := by
    intro j
    induction j with
    | zero => intro _; exact Nat.zero_le _
    | succ j ih =>
      intro hj
      obtain ⟨u, hu, hoj⟩ := down (o v) v hv rfl j (by omega)
      have := countP_lt (p := fun u => decide (o u < j)) (q := fun u => decide (o u < j + 1)) (fun x hx => by simp at hx ⊢; omega) (List.mem_range.2 hu) (by simp [hoj]) (by simp [hoj])
      have := ih (by omega)
      omega
  have h1 := cnt (o v + 1) (Nat.le_refl _)
  have h2 := List.countP_le_length (l := List.range N) (p := fun u => decide (o u < o v + 1))
  rw [List.length_range] at h2
  omega
end Fil
