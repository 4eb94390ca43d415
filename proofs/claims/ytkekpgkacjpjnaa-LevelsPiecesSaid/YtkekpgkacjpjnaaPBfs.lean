/- Plain: a search in breadth: its invariant, each step, its end. -/
namespace Fil
theorem getD_set {α : Type} (l : List α) (u v : Nat) (x d : α) : (l.set u x).getD v d = if u = v ∧ u < l.length then x else l.getD v d := by
  simp only [List.getD_eq_getElem?_getD, List.getElem?_set]
  by_cases h : u = v
  · subst h
    by_cases h2 : u < l.length
    · simp [h2]
    · simp [h2]
  · simp [h]

/-- c is one on both ends of each edge -/
def OnEdges (N : Nat) (A : Nat → List Nat) (c : Nat → Nat) : Prop := ∀ v, v < N → ∀ u ∈ A v, c u = c v

structure Adj (N : Nat) (A : Nat → List Nat) : Prop where
  lt : ∀ v, v < N → ∀ u ∈ A v, u < N
  sym : ∀ v u, v < N → u ∈ A v → v ∈ A u

structure Bfs (N : Nat) (A : Nat → List Nat) (first : Nat) (met : List Bool) (out : List Nat) (lab : Nat → Nat) (line : List Nat) : Prop where
  lm : met.length = N
  lo : out.length = N
  line_lt : ∀ v ∈ line, v < N
  line_met : ∀ v ∈ line, met.getD v false = true
  line_lab : ∀ v ∈ line, lab v = first
  order : line.Pairwise fun a b => out.getD a 0 ≤ out.getD b 0
  head : ∀ a, line.head? = some a → ∀ b ∈ line, out.getD b 0 ≤ out.getD a 0 + 1
  done : ∀ w, w < N → met.getD w false = true → w ∉ line → ∀ u ∈ A w, met.getD u false = true ∧ lab u = lab w ∧ out.getD u 0 ≤ out.getD w 0 + 1
  low : ∀ w, w < N → met.getD w false = true → w ∉ line → lab w = first → ∀ b ∈ line, out.getD w 0 ≤ out.getD b 0
  up : ∀ v k, v < N → met.getD v false = true → out.getD v 0 = k + 1 → ∃ u ∈ A v, met.getD u false = true ∧ out.getD u 0 = k
  root : ∀ v, v < N → met.getD v false = true → (out.getD v 0 = 0 ↔ lab v = v)
  zero : ∀ v, met.getD v false = false → out.getD v 0 = 0
  lab_le : ∀ v, v < N → met.getD v false = true → lab v ≤ v
  lab_met : ∀ v, v < N → met.getD v false = true → met.getD (lab v) false = true ∧ lab (lab v) = lab v
  conn : ∀ v, v < N → met.getD v false = true → ∀ c, OnEdges N A c → c v = c (lab v)
  below : ∀ w, w < first → met.getD w false = true

/-- met, from the current one -/
def Seen (A : Nat → List Nat) (first : Nat) (met : List Bool) (out : List Nat) (lab : Nat → Nat) (v j : Nat) : Prop :=
  ∀ u ∈ (A v).take j, met.getD u false = true ∧ lab u = first ∧ out.getD u 0 ≤ out.getD v 0 + 1

theorem Bfs.old {N : Nat} {A : Nat → List Nat} {first v u j : Nat} {met : List Bool} {out : List Nat} {lab : Nat → Nat} {rest : List Nat} (hA : Adj N A) (h : Bfs N A first met out lab (v :: rest)) (hs : Seen A first met out lab v j) (hu : (A v)[j]? = some u) (hm : met.getD u false = true) : Seen A first met out lab v (j + 1) := by
  have hv : v < N := h.line_lt v (by simp)
  have huA : u ∈ A v := List.mem_of_getElem? hu
  have hun := hA.lt v hv u huA
  intro x hx
  rw [List.take_add_one, hu] at hx
  rcases List.mem_append.1 hx with hx | hx
  · exact hs x hx
  · obtain rfl : x = u := by simpa using hx
    refine ⟨hm, ?_⟩
    by_cases hl : x ∈ v :: rest
    · exact ⟨h.line_lab x hl, h.head v rfl x hl⟩
    · obtain ⟨_, h2, _⟩ := h.done x hun hm hl v (hA.sym v x hv huA)
      have hv1 := h.line_lab v (by simp)
      have hf : lab x = first := by rw [← h2, hv1]
      refine ⟨hf, ?_⟩
      have := h.low x hun hm hl hf v (by simp)
      omega

theorem Bfs.new {N : Nat} {A : Nat → List Nat} {first v u j : Nat} {met : List Bool} {out : List Nat} {lab : Nat → Nat} {rest : List Nat} (hA : Adj N A) (h : Bfs N A first met out lab (v :: rest)) (hs : Seen A first met out lab v j) (hu : (A v)[j]? = some u) (hm : met.getD u false = false) :
    Bfs N A first (met.set u true) (out.set u (out.getD v 0 + 1)) (fun x => if x = u then first else lab x) (v :: rest ++ [u]) ∧ Seen A first (met.set u true) (out.set u (out.getD v 0 + 1)) (fun x => if x = u then first else lab x) v (j + 1) := by
  have hv : v < N := h.line_lt v (by simp)
  have hvm := h.line_met v (by simp)
  have huA : u ∈ A v := List.mem_of_getElem? hu
  have hun := hA.lt v hv u huA
  have hul : u < met.length := by rw [h.lm]; exact hun
  have hulo : u < out.length := by rw [h.lo]; exact hun
  have hne : ∀ x, met.getD x false = true → x ≠ u := fun x hx e => by subst e; rw [hm] at hx; simp at hx
  have hnv := hne v hvm
  have M : ∀ x, (met.set u true).getD x false = if u = x then true else met.getD x false := fun x => by rw [getD_set]; simp [hul]
  have O : ∀ x, (out.set u (out.getD v 0 + 1)).getD x 0 = if u = x then out.getD v 0 + 1 else out.getD x 0 := fun x => by rw [getD_set]; simp [hulo]
  have Om : ∀ x, met.getD x false = true → (out.set u (out.getD v 0 + 1)).getD x 0 = out.getD x 0 := fun x hx => by rw [O, if_neg (Ne.symm (hne x hx))]
  have Mm : ∀ x, met.getD x false = true → (met.set u true).getD x false = true := fun x hx => by rw [M]; split <;> simp_all
  have Mt : ∀ x, (met.set u true).getD x false = true → x = u ∨ met.getD x false = true := fun x hx => by
    rw [M] at hx
    split at hx
    · left; rename_i e; exact e.symm
    · exact .inr hx
  have hlabv := h.line_lab v (by simp)
  have hfirst := h.lab_met v hv hvm
  rw [hlabv] at hfirst
  have hfu : first ≠ u := hne _ hfirst.1
  have hfle : first ≤ u := by
    rcases Nat.lt_or_ge u first with hlt | hge
    · have := h.below u hlt; rw [hm] at this; simp at this
    · exact hge
  refine ⟨⟨by simp [h.lm], by simp [h.lo], ?_, ?_, ?_, ?_, ?_, ?_, ?_, ?_, ?_, ?_, ?_, ?_, ?_, ?_⟩, ?_⟩
  · intro x hx
    rcases List.mem_append.1 hx with hx | hx
    · exact h.line_lt x hx
    · obtain rfl : x = u := by simpa using hx
      exact hun
  · intro x hx
    rcases List.mem_append.1 hx with hx | hx
    · exact Mm x (h.line_met x hx)
    · obtain rfl : x = u := by simpa using hx
      rw [M, if_pos rfl]
  · intro x hx
    rcases List.mem_append.1 hx with hx | hx
    · simp [hne x (h.line_met x hx), h.line_lab x hx]
    · obtain rfl : x = u := by simpa using hx
      simp
  · refine List.pairwise_append.2 ⟨?_, by simp, ?_⟩
    · refine h.order.imp_of_mem fun {a b} ha hb hab => ?_
      rw [Om a (h.line_met a ha), Om b (h.line_met b hb)]
      exact hab
    · intro a ha b hb
      obtain rfl : b = u := by simpa using hb
      rw [Om a (h.line_met a ha), O b, if_pos rfl]
      exact h.head v rfl a ha
  · intro a ha b hb
    obtain rfl : v = a := by simpa using ha
    rw [Om v hvm]
    rcases List.mem_append.1 hb with hb | hb
    · rw [Om b (h.line_met b hb)]
      exact h.head v rfl b hb
    · obtain rfl : b = u := by simpa using hb
      rw [O b, if_pos rfl]
      exact Nat.le_refl _
  · intro w hw hwm hwl x hx
    have hwu : w ≠ u := fun e => hwl (by simp [e])
    have hwm' : met.getD w false = true := (Mt w hwm).resolve_left hwu
    obtain ⟨h1, h2, h3⟩ := h.done w hw hwm' (fun hh => hwl (List.mem_append.2 (.inl hh))) x hx
    refine ⟨Mm x h1, ?_, ?_⟩
    · simp [hne x h1, hwu, h2]
    · rw [Om x h1, Om w hwm']; exact h3
  · intro w hw hwm hwl hwf b hb
    have hwu : w ≠ u := fun e => hwl (by simp [e])
    have hwm' : met.getD w false = true := (Mt w hwm).resolve_left hwu
    have hwl' : w ∉ v :: rest := fun hh => hwl (List.mem_append.2 (.inl hh))
    have hwf' : lab w = first := by simpa [hwu] using hwf
    rw [Om w hwm']
    rcases List.mem_append.1 hb with hb | hb
    · rw [Om b (h.line_met b hb)]
      exact h.low w hw hwm' hwl' hwf' b hb
    · obtain rfl : b = u := by simpa using hb
      rw [O b, if_pos rfl]
      have := h.low w hw hwm' hwl' hwf' v (by simp)
      omega
  · intro x k hx hxm hxk
    rcases Mt x hxm with rfl | hxm'
    · rw [O x, if_pos rfl] at hxk
      exact ⟨v, hA.sym v x hv huA, Mm v hvm, by rw [Om v hvm]; omega⟩
    · rw [Om x hxm'] at hxk
      obtain ⟨y, hy, hym, hyk⟩ := h.up x k hx hxm' hxk
      exact ⟨y, hy, Mm y hym, by rw [Om y hym]; exact hyk⟩
  · intro x hx hxm
    rcases Mt x hxm with rfl | hxm'
    · rw [O x, if_pos rfl, if_pos rfl]
      exact ⟨fun e => by omega, fun e => absurd e hfu⟩
    · rw [Om x hxm', if_neg (hne x hxm')]
      exact h.root x hx hxm'
  · intro x hx
    rw [M] at hx
    rw [O]
    split at hx
    · simp at hx
    · rename_i e
      rw [if_neg e]
      exact h.zero x hx
  · intro x hx hxm
    rcases Mt x hxm with rfl | hxm'
    · simpa using hfle
    · simpa [hne x hxm'] using h.lab_le x hx hxm'
  · intro x hx hxm
    rcases Mt x hxm with rfl | hxm'
    · simp only [if_true]
      refine ⟨Mm _ hfirst.1, ?_⟩
      rw [if_neg hfu]
      exact hfirst.2
    · obtain ⟨h1, h2⟩ := h.lab_met x hx hxm'
      rw [if_neg (hne x hxm')]
      refine ⟨Mm _ h1, ?_⟩
      rw [if_neg (hne _ h1)]
      exact h2
  · intro x hx hxm c hc
    rcases Mt x hxm with rfl | hxm'
    · rw [if_pos rfl, hc v hv x huA, ← hlabv]
      exact h.conn v hv hvm c hc
    · rw [if_neg (hne x hxm')]
      exact h.conn x hx hxm' c hc
  · intro w hw
    exact Mm w (h.below w hw)
  · intro x hx
    rw [List.take_add_one, hu] at hx
    rcases List.mem_append.1 hx with hx | hx
    · obtain ⟨h1, h2, h3⟩ := hs x hx
      refine ⟨Mm x h1, by simp [hne x h1, h2], ?_⟩
      rw [Om x h1, Om v hvm]; exact h3
    · obtain rfl : x = u := by simpa using hx
      refine ⟨by rw [M, if_pos rfl], by simp, ?_⟩
      rw [O x, if_pos rfl, Om v hvm]
      exact Nat.le_refl _

/-- the current one is done -/
theorem Bfs.pop {N : Nat} {A : Nat → List Nat} {first v : Nat} {met : List Bool} {out : List Nat} {lab : Nat → Nat} {rest : List Nat} (h : Bfs N A first met out lab (v :: rest)) (hs : Seen A first met out lab v (A v).length) : Bfs N A first met out lab rest := by
  rw [Seen, List.take_length] at hs
  have hv := h.line_lt v (by simp)
  have hvl := h.line_lab v (by simp)
  obtain ⟨ho1, ho2⟩ := List.pairwise_cons.1 h.order
  refine { h with line_lt := fun x hx => h.line_lt x (by simp [hx]), line_met := fun x hx => h.line_met x (by simp [hx]), line_lab := fun x hx => h.line_lab x (by simp [hx]), order := ho2, head := ?_, done := ?_, low := ?_ }
  · intro a ha b hb
    have h1 := h.head v rfl b (by simp [hb])
    have h2 := ho1 a (List.mem_of_mem_head? ha)
    omega
  · intro w hw hwm hwl u hu
    by_cases hwv : w = v
    · subst hwv
      obtain ⟨h1, h2, h3⟩ := hs u hu
      exact ⟨h1, by rw [h2, hvl], h3⟩
    · exact h.done w hw hwm (by simp [hwv, hwl]) u hu
  · intro w hw hwm hwl hwf b hb
    by_cases hwv : w = v
    · subst hwv; exact ho1 b hb
    · exact h.low w hw hwm (by simp [hwv, hwl]) hwf b (by simp [hb])

/-- the next one was met already -/
theorem Bfs.next {N : Nat} {A : Nat → List Nat} {first : Nat} {met : List Bool} {out : List Nat} {lab : Nat → Nat} (h : Bfs N A first met out lab []) (hm : met.getD first false = true) : Bfs N A (first + 1) met out lab [] :=
  { h with
    line_lab := fun v hv => by simp at hv
    low := fun w hw hwm hwl hwf b hb => by simp at hb
    below := fun w hw => by
      rcases Nat.lt_or_ge w first with hlt | hge
      · exact h.below w hlt
      · obtain rfl : w = first := by omega
        exact hm }

/-- .. or was not -/
theorem Bfs.start {N : Nat} {A : Nat → List Nat} {first : Nat} {met : List Bool} {out : List Nat} {lab : Nat → Nat} (h : Bfs N A first met out lab []) (hf : first < N) (hm : met.getD first false = false) : Bfs N A first (met.set first true) out (fun x => if x = first then first else lab x) [first] := by
  have hul : first < met.length := by rw [h.lm]; exact hf
  have hne : ∀ x, met.getD x false = true → x ≠ first := fun x hx e => by subst e; rw [hm] at hx; simp at hx
  have M : ∀ x, (met.set first true).getD x false = if first = x then true else met.getD x false := fun x => by rw [getD_set]; simp [hul]
  have Mm : ∀ x, met.getD x false = true → (met.set first true).getD x false = true := fun x hx => by rw [M]; split <;> simp_all
  have Mt : ∀ x, (met.set first true).getD x false = true → x = first ∨ met.getD x false = true := fun x hx => by
    rw [M] at hx
    split at hx
    · left; rename_i e; exact e.symm
    · exact .inr hx
  refine ⟨by simp [h.lm], h.lo, ?_, ?_, ?_, by simp, ?_, ?_, ?_, ?_, ?_, ?_, ?_, ?_, ?_, ?_⟩
  · intro x hx
    obtain rfl : x = first := by simpa using hx
    exact hf
  · intro x hx
    obtain rfl : x = first := by simpa using hx
    rw [M, if_pos rfl]
  · intro x hx
    obtain rfl : x = first := by simpa using hx
    simp
  · intro a ha b hb
    obtain rfl : first = a := by simpa using ha
    obtain rfl : b = first := by simpa using hb
    omega
  · intro w hw hwm hwl x hx
    have hwu : w ≠ first := fun e => hwl (by simp [e])
    have hwm' : met.getD w false = true := (Mt w hwm).resolve_left hwu
    obtain ⟨h1, h2, h3⟩ := h.done w hw hwm' (by simp) x hx
    exact ⟨Mm x h1, by simp [hne x h1, hwu, h2], h3⟩
  · intro w hw hwm hwl hwf b hb
    have hwu : w ≠ first := fun e => hwl (by simp [e])
    have hwm' : met.getD w false = true := (Mt w hwm).resolve_left hwu
    have hwf' : lab w = first := by simpa [hwu] using hwf
    have := (h.lab_met w hw hwm').1
    rw [hwf', hm] at this
    simp at this
  · intro x k hx hxm hxk
    rcases Mt x hxm with rfl | hxm'
    · rw [h.zero x hm] at hxk; omega
    · obtain ⟨y, hy, hym, hyk⟩ := h.up x k hx hxm' hxk
      exact ⟨y, hy, Mm y hym, hyk⟩
  · intro x hx hxm
    rcases Mt x hxm with rfl | hxm'
    · simp [-List.getD_eq_getElem?_getD, h.zero x hm]
    · rw [if_neg (hne x hxm')]
      exact h.root x hx hxm'
  · intro x hx
    rw [M] at hx
    split at hx
    · simp at hx
    · exact h.zero x hx
  · intro x hx hxm
    rcases Mt x hxm with rfl | hxm'
    · simp
    · simpa [hne x hxm'] using h.lab_le x hx hxm'
  · intro x hx hxm
    rcases Mt x hxm with rfl | hxm'
    · simp [-List.getD_eq_getElem?_getD, M]
    · obtain ⟨h1, h2⟩ := h.lab_met x hx hxm'
      rw [if_neg (hne x hxm')]
      refine ⟨Mm _ h1, ?_⟩
      rw [if_neg (hne _ h1)]
      exact h2
  · intro x hx hxm c hc
    rcases Mt x hxm with rfl | hxm'
    · rw [if_pos rfl]
    · rw [if_neg (hne x hxm')]
      exact h.conn x hx hxm' c hc
  · intro w hw
    exact Mm w (h.below w hw)

theorem Bfs.init (N : Nat) (A : Nat → List Nat) : Bfs N A 0 (List.replicate N false) (List.replicate N 0) (fun _ => 0) [] := by
  have hf : ∀ x, (List.replicate N false).getD x false = false := fun x => by
    simp only [List.getD_eq_getElem?_getD, List.getElem?_replicate]; split <;> rfl
  refine ⟨by simp, by simp, by simp, by simp, by simp, by simp, by simp, ?_, by simp, ?_, ?_, ?_, ?_, ?_, ?_, fun w hw => by omega⟩
  · intro w hw hm; rw [hf] at hm; simp at hm
  · intro w k hw hm; rw [hf] at hm; simp at hm
  · intro w hw hm; rw [hf] at hm; simp at hm
  · intro v _
    simp only [List.getD_eq_getElem?_getD, List.getElem?_replicate]; split <;> rfl
  · intro w hw hm; rw [hf] at hm; simp at hm
  · intro w hw hm; rw [hf] at hm; simp at hm
  · intro w hw hm; rw [hf] at hm; simp at hm

/-- levels, and the least one that each hangs together with -/
structure Lev (N : Nat) (A : Nat → List Nat) (o : Nat → Nat) (lab : Nat → Nat) : Prop where
  edge : ∀ w, w < N → ∀ u ∈ A w, lab u = lab w ∧ o u ≤ o w + 1
  up : ∀ v k, v < N → o v = k + 1 → ∃ u ∈ A v, o u = k
  root : ∀ v, v < N → (o v = 0 ↔ lab v = v)
  le : ∀ v, v < N → lab v ≤ v
  idem : ∀ v, v < N → lab (lab v) = lab v
  conn : ∀ v, v < N → ∀ c, OnEdges N A c → c v = c (lab v)

theorem Bfs.lev {N : Nat} {A : Nat → List Nat} {met : List Bool} {out : List Nat} {lab : Nat → Nat} (h : Bfs N A N met out lab []) : Lev N A (fun v => out.getD v 0) lab where
  edge w hw u hu := (h.done w hw (h.below w hw) (by simp) u hu).2
  up v k hv hk := (h.up v k hv (h.below v hv) hk).imp fun u hu => ⟨hu.1, hu.2.2⟩
  root v hv := h.root v hv (h.below v hv)
  le v hv := h.lab_le v hv (h.below v hv)
  idem v hv := (h.lab_met v hv (h.below v hv)).2
  conn v hv := h.conn v hv (h.below v hv)

/-- how many were not met -/
def unmet (met : List Bool) : Nat := met.countP (fun b => !b)
theorem unmet_set {met : List Bool} {u : Nat} (hu : u < met.length) (h : met.getD u false = false) : unmet (met.set u true) + 1 = unmet met := by
  induction met generalizing u with
  | nil => simp at hu
  | cons b l ih =>
    cases u with
    | zero =>
      obtain rfl : b = false := by simpa using h
      simp [unmet]
    | succ u =>
      have := ih (u := u) (by simpa using hu) (by simpa using h)
      simp only [unmet, List.set_cons_succ, List.countP_cons] at *
      omega
theorem unmet_le (met : List Bool) : unmet met ≤ met.length := List.countP_le_length
end Fil
