/- Plain: right graphs, what is next to what. -/
import Derived.Test.YtkekpgkacjpjnaaPGraph
import Derived.Test.YtkekpgkacjpjnaaPBfs
namespace Fil

def okE (n : Int) (e : E) : Prop := 0 ≤ e.1 ∧ e.1 < e.2.1 ∧ e.2.1 < n ∧ -2147483648 < e.2.2 ∧ e.2.2 < 2147483648
def ltE (a b : E) : Prop := a.1 < b.1 ∨ a.1 = b.1 ∧ a.2.1 < b.2.1

structure RightG (n : Int) (es : List E) : Prop where
  lo : 0 ≤ n
  hi : n ≤ 1048576
  many : es.length ≤ 4194304
  ok : ∀ e ∈ es, okE n e
  sorted : es.Pairwise ltE

theorem ltE_trans {a b c : E} (h : ltE a b) (h' : ltE b c) : ltE a c := by
  simp only [ltE] at *; omega
theorem orderK_lt {a b : E} : orderK a b ≠ 0 ∧ orderK a b ≠ 1 ↔ ltE a b := by
  simp only [orderK, cmpK, ltE]
  (repeat' split) <;> omega
theorem aloneK_ok {n : Int} {e : E} : aloneK n e.1 e.2.1 e.2.2 = 0 ∧ ¬ e.2.1 < e.1 ↔ okE n e := by
  simp only [aloneK, okE]
  (repeat' split) <;> omega

theorem scan_iff {n : Int} : ∀ (es : List E) (p : Option E), scan n p es = 0 ↔ (∀ e ∈ es, okE n e) ∧ es.Pairwise ltE ∧ ∀ q, p = some q → ∀ e, es.head? = some e → ltE q e
  | [], p => by simp [scan]
  | e :: r, p => by
    have ih := scan_iff (n := n) r (some e)
    have key : scan n p (e :: r) = 0 ↔ okE n e ∧ (∀ q, p = some q → ltE q e) ∧ scan n (some e) r = 0 := by
      rw [← aloneK_ok]
      cases p with
      | none =>
        simp only [scan]
        (repeat' split) <;> simp_all
      | some q =>
        simp only [scan, Option.some.injEq, forall_eq', ← orderK_lt]
        (repeat' split) <;> simp_all
    rw [key, ih]
    constructor
    · rintro ⟨h1, h2, h3, h4, h5⟩
      refine ⟨fun x hx => (List.mem_cons.1 hx).elim (fun h => h ▸ h1) (h3 x), List.pairwise_cons.2 ⟨?_, h4⟩, fun q hq e' he' => ?_⟩
      · cases r with
        | nil => simp
        | cons x r =>
          have hx := h5 e rfl x rfl
          intro y hy
          rcases List.mem_cons.1 hy with rfl | hy
          · exact hx
          · exact ltE_trans hx ((List.pairwise_cons.1 h4).1 y hy)
      · obtain rfl : e = e' := by simpa using he'
        exact h2 q hq
    · rintro ⟨h1, h2, h3⟩
      obtain ⟨h4, h5⟩ := List.pairwise_cons.1 h2
      refine ⟨h1 e (by simp), fun q hq => h3 q hq e rfl, fun x hx => h1 x (by simp [hx]), h5, fun q hq y hy => ?_⟩
      obtain rfl : e = q := by simpa using hq
      exact h4 y (List.mem_of_mem_head? hy)

theorem right_iff {n : Int} {es : List E} : rightK n es = 0 ↔ RightG n es := by
  have hs : sizesK n es.length = 0 ↔ 0 ≤ n ∧ n ≤ 1048576 ∧ es.length ≤ 4194304 := by
    simp only [sizesK]
    (repeat' split) <;> omega
  rw [rightK]
  split
  · rename_i h
    obtain ⟨h1, h2, h3⟩ := hs.1 h
    rw [scan_iff]
    exact ⟨fun ⟨a, b, _⟩ => ⟨h1, h2, h3, a, b⟩, fun h => ⟨h.ok, h.sorted, fun q hq => by simp at hq⟩⟩
  · rename_i h
    exact ⟨fun h' => absurd h' h, fun h' => absurd (hs.2 ⟨h'.lo, h'.hi, h'.many⟩) h⟩

/-- edges, by numbers of vertices -/
def tn (es : List E) : List (Nat × Nat) := es.map fun e => (e.1.toNat, e.2.1.toNat)

/-- next to u, as the edges come -/
def nb (l : List (Nat × Nat)) (u : Nat) : List Nat := l.filterMap fun e => if e.1 = u then some e.2 else if e.2 = u then some e.1 else none
def nears (N : Nat) (l : List (Nat × Nat)) : List (List Nat) := (List.range N).map (nb l)
def nearS (l : List (Nat × Nat)) (u : Nat) : List Nat := (nb l u).mergeSort fun x y => decide (x ≤ y)

theorem nb_snoc (l : List (Nat × Nat)) (e : Nat × Nat) (u : Nat) : nb (l ++ [e]) u = nb l u ++ (if e.1 = u then [e.2] else if e.2 = u then [e.1] else []) := by
  simp only [nb, List.filterMap_append, List.filterMap_cons, List.filterMap_nil]
  split <;> (try split) <;> simp_all <;> split <;> simp_all

/-- one edge more -/
theorem nears_snoc {N : Nat} {l : List (Nat × Nat)} {u v : Nat} (hu : u < N) (hv : v < N) (hne : u ≠ v) : nears N (l ++ [(u, v)]) = ((nears N l).set u (nb l u ++ [v])).set v (nb l v ++ [u]) := by
  apply List.ext_getElem?
  intro k
  simp only [nears, List.getElem?_set, List.getElem?_map, List.length_set, List.length_map, List.length_range]
  by_cases hk : k < N
  · rw [List.getElem?_eq_getElem (by simpa using hk)]
    simp only [List.getElem_range, Option.map_some, nb_snoc]
    by_cases h1 : u = k
    · subst h1
      simp [Ne.symm hne, hu]
    · by_cases h2 : v = k
      · subst h2
        simp [hv, h1]
      · simp [h1, h2]
  · rw [List.getElem?_eq_none (by simpa using hk)]
    have h1 : u ≠ k := by omega
    have h2 : v ≠ k := by omega
    simp [h1, h2]

theorem nb_length (l : List (Nat × Nat)) (u : Nat) : (nb l u).length ≤ l.length := List.length_filterMap_le _ _
theorem nears_get {N : Nat} {l : List (Nat × Nat)} {u : Nat} (hu : u < N) : (nears N l)[u]? = some (nb l u) := by simp [nears, hu]
theorem nears_zero (N : Nat) : nears N [] = List.replicate N [] := by
  have : nb [] = fun _ => [] := rfl
  rw [nears, this, List.map_const', List.length_range]
theorem tn_take {es : List E} {k : Nat} {e : E} (he : es[k]? = some e) : tn (es.take (k + 1)) = tn (es.take k) ++ [(e.1.toNat, e.2.1.toNat)] := by
  rw [List.take_add_one, he]; simp [tn]
/-- sorted up to i -/
def sorted (N : Nat) (l : List (Nat × Nat)) (i : Nat) : List (List Nat) := (List.range N).map fun u => if u < i then nearS l u else nb l u
theorem sorted_zero (N : Nat) (l : List (Nat × Nat)) : sorted N l 0 = nears N l := by simp [sorted, nears]
theorem sorted_all (N : Nat) (l : List (Nat × Nat)) : sorted N l N = (List.range N).map (nearS l) := by
  apply List.map_congr_left
  intro u hu
  rw [if_pos (by simpa using hu)]
theorem sorted_get {N i : Nat} {l : List (Nat × Nat)} (hi : i < N) : (sorted N l i)[i]? = some (nb l i) := by simp [sorted, hi]
theorem sorted_succ {N i : Nat} {l : List (Nat × Nat)} (hi : i < N) : sorted N l (i + 1) = (sorted N l i).set i (nearS l i) := by
  apply List.ext_getElem?
  intro k
  simp only [sorted, List.getElem?_set, List.getElem?_map, List.length_map, List.length_range]
  by_cases hk : k < N
  · rw [List.getElem?_eq_getElem (by simpa using hk)]
    simp only [List.getElem_range, Option.map_some]
    by_cases h1 : i = k
    · subst h1; simp [hi]
    · rw [if_neg h1]
      by_cases h2 : k < i
      · rw [if_pos (by omega), if_pos h2]
      · rw [if_neg (by omega), if_neg h2]
  · rw [List.getElem?_eq_none (by simpa using hk)]
    have : i ≠ k := by omega
    simp [this]
theorem mem_nb {l : List (Nat × Nat)} {u v : Nat} (hl : ∀ e ∈ l, e.1 ≠ e.2) : u ∈ nb l v ↔ (v, u) ∈ l ∨ (u, v) ∈ l := by
  simp only [nb, List.mem_filterMap]
  constructor
  · rintro ⟨⟨a, b⟩, he, h⟩
    dsimp only at h
    split at h
    · rename_i h1; subst h1
      obtain rfl : b = u := by simpa using h
      exact .inl he
    · split at h
      · rename_i h2; subst h2
        obtain rfl : a = u := by simpa using h
        exact .inr he
      · simp at h
  · rintro (h | h)
    · exact ⟨(v, u), h, by simp⟩
    · refine ⟨(u, v), h, ?_⟩
      have := hl _ h
      dsimp only at this ⊢
      rw [if_neg this, if_pos rfl]
theorem mem_nearS {l : List (Nat × Nat)} {u v : Nat} : u ∈ nearS l v ↔ u ∈ nb l v := by simp [nearS, List.mem_mergeSort]

structure Good (N : Nat) (l : List (Nat × Nat)) : Prop where
  lt : ∀ e ∈ l, e.1 < e.2 ∧ e.2 < N
theorem RightG.good {n : Int} {es : List E} (h : RightG n es) : Good n.toNat (tn es) where
  lt e he := by
    obtain ⟨x, hx, rfl⟩ := List.mem_map.1 he
    obtain ⟨h1, h2, h3, -, -⟩ := h.ok x hx
    have := h.lo
    dsimp only
    omega
theorem Good.adj {N : Nat} {l : List (Nat × Nat)} (h : Good N l) : Adj N (nb l) where
  lt v hv u hu := by
    rcases (mem_nb (fun e he => by have := h.lt e he; omega)).1 hu with hu | hu
    · exact (h.lt _ hu).2
    · have := h.lt _ hu; dsimp only at this; omega
  sym v u hv hu := by
    rw [mem_nb (fun e he => by have := h.lt e he; omega)] at hu ⊢
    exact hu.symm
theorem Good.adjS {N : Nat} {l : List (Nat × Nat)} (h : Good N l) : Adj N (nearS l) where
  lt v hv u hu := h.adj.lt v hv u (mem_nearS.1 hu)
  sym v u hv hu := mem_nearS.2 (h.adj.sym v u hv (mem_nearS.1 hu))
end Fil
