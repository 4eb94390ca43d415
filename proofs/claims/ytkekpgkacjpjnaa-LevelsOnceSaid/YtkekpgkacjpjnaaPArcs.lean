/- Plain: to which neighbours, by which edge. -/
import Derived.Test.YtkekpgkacjpjnaaPNear
namespace Fil
def ab (l : List (Nat × Nat)) (u : Nat) : List (Nat × Nat) := l.zipIdx.filterMap fun p => if p.1.1 = u then some (p.1.2, p.2) else if p.1.2 = u then some (p.1.1, p.2) else none
def arcsL (N : Nat) (l : List (Nat × Nat)) : List (List (Nat × Nat)) := (List.range N).map (ab l)
theorem ab_snoc (l : List (Nat × Nat)) (e : Nat × Nat) (u : Nat) : ab (l ++ [e]) u = ab l u ++ (if e.1 = u then [(e.2, l.length)] else if e.2 = u then [(e.1, l.length)] else []) := by
  simp only [ab, List.zipIdx_append, List.filterMap_append, List.zipIdx_cons, List.zipIdx_nil, List.filterMap_cons, List.filterMap_nil, Nat.zero_add]
  split <;> (try split) <;> simp_all <;> split <;> simp_all
theorem ab_fst (l : List (Nat × Nat)) (u : Nat) : (ab l u).map Prod.fst = nb l u := by
  have key : ∀ (l : List (Nat × Nat)) (k : Nat), ((l.zipIdx k).filterMap fun p => if p.1.1 = u then some (p.1.2, p.2) else if p.1.2 = u then some (p.1.1, p.2) else none).map Prod.fst = nb l u := by
    intro l
    induction l with
    | nil => intro k; rfl
    | cons e l ih =>
      intro k
      simp only [List.zipIdx_cons, List.filterMap_cons, nb]
      have := ih (k + 1)
      simp only [nb] at this
      by_cases h1 : e.1 = u
      · simp [h1, this]
      · by_cases h2 : e.2 = u
        · simp [h1, h2, this]
        · simp [h1, h2, this]
  exact key l 0
theorem ab_length (l : List (Nat × Nat)) (u : Nat) : (ab l u).length ≤ l.length := by
  have := nb_length l u
  rw [← ab_fst, List.length_map] at this
  exact this
theorem arcs_snoc {N : Nat} {l : List (Nat × Nat)} {u v : Nat} (hu : u < N) (hv : v < N) (hne : u ≠ v) : arcsL N (l ++ [(u, v)]) = ((arcsL N l).set u (ab l u ++ [(v, l.length)])).set v (ab l v ++ [(u, l.length)]) := by
  apply List.ext_getElem?
  intro k
  simp only [arcsL, List.getElem?_set, List.getElem?_map, List.length_set, List.length_map, List.length_range]
  by_cases hk : k < N
  · rw [List.getElem?_eq_getElem (by simpa using hk)]
    simp only [List.getElem_range, Option.map_some, ab_snoc]
    by_cases h1 : u = k
    · subst h1
      simp [Ne.symm hne, hu]
    · by_cases h2 : v = k
      · subst h2
        simp [hv, h1]
      · simp [h1, h2]
  · rw [List.getElem?_eq_none (by simpa using hk)]
    have h1 : u ≠ k := by omega
    have h2 : v ≠ k := by omega
    simp [h1, h2]
theorem arcs_get {N : Nat} {l : List (Nat × Nat)} {u : Nat} (hu : u < N) : (arcsL N l)[u]? = some (ab l u) := by simp [arcsL, hu]
theorem arcs_zero (N : Nat) : arcsL N [] = List.replicate N [] := by
  have : ab [] = fun _ => [] := rfl
  rw [arcsL, this, List.map_const', List.length_range]
theorem tn_length (es : List E) : (tn es).length = es.length := by simp [tn]
end Fil
