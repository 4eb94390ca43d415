/- Plain: components as lists, and the pieces that are left by a shift. -/
import Derived.Test.YtkekpgkacjpjnaaPRef06
namespace Fil
/-- the lists of those of labels below i -/
def compsI (N i : Nat) (lab : Nat → Nat) : List (List Nat) := ((List.range i).filter fun v => lab v == v).map fun r => (List.range N).filter fun u => lab u == r
abbrev compsS (N : Nat) (lab : Nat → Nat) : List (List Nat) := compsI N N lab

theorem Bfs.comps {N : Nat} {A : Nat → List Nat} {met : List Bool} {out : List Nat} {lab : Nat → Nat} (h : Bfs N A N met out lab []) : compsL N N met lab = compsS N lab := by
  apply List.map_congr_left
  intro r _
  apply List.filter_congr
  intro u hu
  rw [h.below u (by simpa using hu), Bool.true_and]
theorem compsI_next {N i : Nat} {lab : Nat → Nat} (h : lab i ≠ i) : compsI N (i + 1) lab = compsI N i lab := by
  have : (lab i == i) = false := by simpa using h
  rw [compsI, List.range_succ, List.filter_append]
  simp [this, compsI]
theorem compsI_add {N i : Nat} {lab : Nat → Nat} (h : lab i = i) : compsI N (i + 1) lab = compsI N i lab ++ [(List.range N).filter fun u => lab u == i] := by
  rw [compsI, List.range_succ, List.filter_append]
  simp [h, compsI]
theorem compsI_length (N i : Nat) (lab : Nat → Nat) : (compsI N i lab).length ≤ i := by
  rw [compsI, List.length_map]
  have := List.length_filter_le (fun v => lab v == v) (List.range i)
  rwa [List.length_range] at this
theorem compsS_congr {N : Nat} {lab lab' : Nat → Nat} (h : ∀ v, v < N → lab v = lab' v) : compsS N lab = compsS N lab' := by
  have e1 : (List.range N).filter (fun v => lab v == v) = (List.range N).filter fun v => lab' v == v := by
    apply List.filter_congr
    intro v hv
    rw [h v (by simpa using hv)]
  rw [compsS, compsS, compsI, compsI, e1]
  apply List.map_congr_left
  intro r _
  apply List.filter_congr
  intro u hu
  rw [h u (by simpa using hu)]
/-- one row, as far as u -/
theorem row_low {lab : Nat → Nat} {v : Nat} (hl : ∀ u, u < v → lab u ≤ u) : (List.range v).filter (fun u => lab u == v) = [] := by
  rw [List.filter_eq_nil_iff]
  intro u hu
  have hu : u < v := by simpa using hu
  have := hl u hu
  simp; omega
theorem row_add {lab : Nat → Nat} {u v : Nat} (h : lab u = v) : (List.range (u + 1)).filter (fun u => lab u == v) = (List.range u).filter (fun u => lab u == v) ++ [u] := by
  rw [List.range_succ, List.filter_append]
  simp [h]
theorem row_next {lab : Nat → Nat} {u v : Nat} (h : lab u ≠ v) : (List.range (u + 1)).filter (fun u => lab u == v) = (List.range u).filter (fun u => lab u == v) := by
  have : (lab u == v) = false := by simpa using h
  rw [List.range_succ, List.filter_append]
  simp [this]
theorem row_length (N v : Nat) (lab : Nat → Nat) : ((List.range N).filter fun u => lab u == v).length ≤ N := by
  have := List.length_filter_le (fun u => lab u == v) (List.range N)
  rwa [List.length_range] at this

/-- each list of it -/
theorem comp_mem {N : Nat} {lab : Nat → Nat} {c : List Nat} (h : c ∈ compsS N lab) : ∃ r, r < N ∧ lab r = r ∧ c = (List.range N).filter fun u => lab u == r := by
  obtain ⟨r, hr, rfl⟩ := List.mem_map.1 h
  obtain ⟨h1, h2⟩ := List.mem_filter.1 hr
  exact ⟨r, by simpa using h1, by simpa using h2, rfl⟩
theorem filter_head {p : Nat → Bool} {r : Nat} : ∀ {l : List Nat}, r ∈ l → p r = true → ∃ x t, l.filter p = x :: t
  | y :: l, hr, hp => by
    by_cases h : p y = true
    · exact ⟨y, l.filter p, by simp [h]⟩
    · have : r ∈ l := by
        rcases List.mem_cons.1 hr with rfl | h1
        · exact absurd hp h
        · exact h1
      obtain ⟨x, t, e⟩ := filter_head this hp
      exact ⟨x, t, by simp [h, e]⟩
/-- .. begins with its label -/
theorem comp_head {N : Nat} {lab : Nat → Nat} {r : Nat} (hr : r < N) (hl : lab r = r) (hle : ∀ v, v < N → lab v ≤ v) : ∃ t, ((List.range N).filter fun u => lab u == r) = r :: t := by
  obtain ⟨x, t, e⟩ := filter_head (p := fun u => lab u == r) (List.mem_range.2 hr) (by simpa using hl)
  have hx : x ∈ (List.range N).filter fun u => lab u == r := by rw [e]; simp
  obtain ⟨h1, h2⟩ := List.mem_filter.1 hx
  have h1 : x < N := by simpa using h1
  have h2 : lab x = r := by simpa using h2
  have h3 := hle x h1
  have hs : ((List.range N).filter fun u => lab u == r).Pairwise (fun a b => a < b) := List.pairwise_lt_range.filter _
  have hr' : r ∈ (List.range N).filter fun u => lab u == r := List.mem_filter.2 ⟨List.mem_range.2 hr, by simpa using hl⟩
  rw [e] at hs hr'
  rcases List.mem_cons.1 hr' with h4 | h4
  · exact ⟨t, by rw [e, h4]⟩
  · have := (List.pairwise_cons.1 hs).1 r h4
    omega

theorem Lev.congr {N : Nat} {A B : Nat → List Nat} {o lab : Nat → Nat} (h : Lev N A o lab) (hAB : ∀ v, v < N → ∀ u, u ∈ A v ↔ u ∈ B v) : Lev N B o lab where
  edge w hw u hu := h.edge w hw u ((hAB w hw u).2 hu)
  up v k hv hk := by
    obtain ⟨u, hu, h2⟩ := h.up v k hv hk
    exact ⟨u, (hAB v hv u).1 hu, h2⟩
  root := h.root
  le := h.le
  idem := h.idem
  conn v hv c hc := h.conn v hv c fun w hw u hu => hc w hw u ((hAB w hw u).1 hu)

/-- left out by a shift: said in two ways -/
theorem shift_iff {x k s : Nat} (hs : s ≤ k) : (x + k + 1 - s) % (k + 1) = 0 ↔ x % (k + 1) = s := by
  have h1 := Nat.div_add_mod x (k + 1)
  have h2 := Nat.mod_lt x (show 0 < k + 1 by omega)
  generalize x / (k + 1) = q at h1
  generalize x % (k + 1) = r at *
  obtain rfl : x = (k + 1) * q + r := h1.symm
  have e : ((k + 1) * q + r + k + 1 - s) = (r + (k + 1 - s)) + (k + 1) * q := by omega
  rw [e, Nat.add_mul_mod_self_left]
  by_cases h : s ≤ r
  · have e2 : r + (k + 1 - s) = (r - s) + (k + 1) := by omega
    rw [e2, Nat.add_mod_right, Nat.mod_eq_of_lt (by omega)]
    omega
  · rw [Nat.mod_eq_of_lt (by omega)]
    omega
def keptL (N k s : Nat) (o : Nat → Nat) : List Bool := (List.range N).map fun v => decide (o v % (k + 1) ≠ s)
theorem keptL_get {N k s v : Nat} {o : Nat → Nat} (hv : v < N) : (keptL N k s o).getD v false = decide (o v % (k + 1) ≠ s) := by simp [keptL, hv]

def piecesL (N : Nat) (lab : Nat → Nat) (kept : List Bool) : List (List Nat) := (compsS N lab).filter fun c => kept.getD (c.headD 0) false

/-- between two levels that are left out -/
theorem block_step {m a b : Nat} (hm : 0 < m) (h1 : a ≤ b + 1) (h2 : b ≤ a + 1) (ha : a % m ≠ 0) (hb : b % m ≠ 0) : a / m = b / m := by
  have a1 := Nat.div_add_mod a m
  have b1 := Nat.div_add_mod b m
  have a2 := Nat.mod_lt a hm
  have b2 := Nat.mod_lt b hm
  generalize a / m = p at *
  generalize b / m = q at *
  rcases Nat.lt_trichotomy p q with h | h | h
  · have := Nat.mul_le_mul_left m (show p + 1 ≤ q from h)
    rw [Nat.mul_add, Nat.mul_one] at this
    omega
  · exact h
  · have := Nat.mul_le_mul_left m (show q + 1 ≤ p from h)
    rw [Nat.mul_add, Nat.mul_one] at this
    omega

theorem block_span {m a s x q : Nat} (hm : 0 < m) (hs : s < m) (ha : a = x + m - s) (hq : a / m = q) (h0 : a % m ≠ 0) : m * q + s + 1 - m ≤ x ∧ x ≤ (m * q + s + 1 - m) + (m - 2) := by
  have a1 := Nat.div_add_mod a m
  have a2 := Nat.mod_lt a hm
  rw [hq] at a1
  by_cases hq0 : q = 0
  · subst hq0
    rw [Nat.mul_zero] at *
    omega
  · have := Nat.mul_le_mul_left m (show 1 ≤ q by omega)
    rw [Nat.mul_one] at this
    omega
end Fil
