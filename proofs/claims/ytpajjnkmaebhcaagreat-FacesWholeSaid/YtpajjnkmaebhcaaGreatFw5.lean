/- Of FacesWhole: part 5: what the walks rest on, contracts of functions and plain lemmas; no condition but those that each states. -/
import Derived.Test.YtpajjnkmaebhcaaGreatFw4
import Derived.Shelf.SlSortCmp.NoneTotal
import Derived.Shelf.SlGeneric
import Derived.ProofKit
import Derived.Deep.Slices
import Derived.Deep.Strs
import Derived.Lib.SmallJoins
import Derived.ChangeSlices
import Derived.SizedLaws
set_option linter.unusedVariables false
set_option linter.unusedSimpArgs false
section
set_option linter.unusedVariables false
set_option linter.unusedSectionVars false
namespace Fil
section
variable {α : Type} [DecidableEq α]
theorem Dec.insert {p q : α → α} {ds : List α} {C : List (List α)} {x y : α} (h : Dec p ds C) (hy : y ∈ ds) (hx : x ∉ ds) (hqy : q y = x) (hqx : q x = p y) (ho : ∀ z ∈ ds, z ≠ y → q z = p z) : ∃ C', C'.length = C.length ∧ Dec q (x :: ds) C' := by
  obtain ⟨A, l, rest, _, hC, h1⟩ := h.front hy
  have hlen : C.length = rest.length + 1 := by simpa using hC.length_eq
  have hp := h1.perm
  have hn := hp.nodup_iff.2 h1.nd
  rw [List.flatten_cons, List.cons_append] at hp hn
  obtain ⟨hyn, hn2⟩ := List.nodup_cons.1 hn
  refine ⟨(y :: x :: A) :: rest, by simp [hlen], List.nodup_cons.2 ⟨hx, h.nd⟩, fun m hm => ?_, ?_⟩
  · rcases List.mem_cons.1 hm with rfl | hm
    · rw [Cy.cons, hqy]
      have h2 := Cy.cons.1 (h1.cy _ (.head _))
      refine ⟨rfl, ?_⟩
      rw [hqx]
      exact st_congr (fun a ha => (ho a (hp.mem_iff.1 (.tail _ (List.mem_append.2 (.inl ha)))) fun e => hyn (by rw [← e]; exact List.mem_append.2 (.inl ha))).symm) h2
    · refine (h1.cy m (.tail _ hm)).congr fun a ha => ?_
      have ha2 : a ∈ rest.flatten := List.mem_flatten.2 ⟨m, hm, ha⟩
      exact (ho a (hp.mem_iff.1 (.tail _ (List.mem_append.2 (.inr ha2)))) fun e => hyn (by rw [← e]; exact List.mem_append.2 (.inr ha2))).symm
  · rw [List.flatten_cons, List.cons_append, List.cons_append]
    exact (List.Perm.swap _ _ _).trans (List.Perm.cons _ hp)
theorem Dec.lone {p q : α → α} {ds : List α} {C : List (List α)} {x : α} (h : Dec p ds C) (hx : x ∉ ds) (hqx : q x = x) (ho : ∀ z ∈ ds, q z = p z) : Dec q (x :: ds) ([x] :: C) :=
  ⟨List.nodup_cons.2 ⟨hx, h.nd⟩, fun m hm => by
    rcases List.mem_cons.1 hm with rfl | hm
    · rw [Cy.cons, hqx]; rfl
    · exact (h.cy m hm).congr fun a ha => (ho a (h.perm.mem_iff.1 (List.mem_flatten.2 ⟨m, hm, ha⟩))).symm, by
    rw [List.flatten_cons, List.singleton_append]; exact List.Perm.cons _ h.perm⟩
end
theorem cyc_head {l : List Nat} (h : l.Nodup) {m : List Nat} {u : Nat} (hl : l = m ++ [u]) : cyc l u = l.headD 0 := by
  have hi : m.length < l.length := by rw [hl]; simp
  have e : l[m.length] = u := by simp [hl]
  have h1 := cyc_at h hi
  rw [e] at h1
  rw [h1]
  have : (m.length + 1) % l.length = 0 := by simp [hl]
  simp only [this]
  cases l with
  | nil => simp at hi
  | cons a l => simp
theorem cyc_last {l m : List Nat} {u b : Nat} (h : (l ++ [b]).Nodup) (hl : l = m ++ [u]) : cyc (l ++ [b]) u = b := by
  have hi : m.length < (l ++ [b]).length := by simp [hl]
  have e : (l ++ [b])[m.length] = u := by simp [hl]
  have h1 := cyc_at h hi
  rw [e] at h1
  rw [h1]
  have : (m.length + 1) % (l ++ [b]).length = m.length + 1 := Nat.mod_eq_of_lt (by rw [hl]; simp)
  simp only [this]
  simp [hl]
theorem cyc_mid {l : List Nat} {u b : Nat} (h : (l ++ [b]).Nodup) (hu : u ∈ l) (hn : ∀ m, l ≠ m ++ [u]) : cyc (l ++ [b]) u = cyc l u := by
  obtain ⟨i, hi, rfl⟩ := List.getElem_of_mem hu
  have hl := (List.nodup_append.1 h).1
  have hi2 : i + 1 < l.length := by
    apply Classical.byContradiction
    intro h2
    have : i = l.length - 1 := by omega
    subst this
    refine hn l.dropLast ?_
    have hne : l ≠ [] := fun e => by simp [e] at hi
    rw [← List.getLast_eq_getElem hne, List.dropLast_concat_getLast hne]
  have h1 := cyc_at h (i := i) (by simp; omega)
  rw [List.getElem_append_left hi] at h1
  rw [h1, cyc_at hl hi]
  have e1 : (i + 1) % (l ++ [b]).length = i + 1 := Nat.mod_eq_of_lt (by simp; omega)
  have e2 : (i + 1) % l.length = i + 1 := Nat.mod_eq_of_lt hi2
  simp only [e1, e2]
  rw [List.getElem_append_left hi2]
theorem last_cases (l : List Nat) : l = [] ∨ ∃ m u, l = m ++ [u] := by
  rcases List.eq_nil_or_concat l with h | ⟨m, u, h⟩
  · exact .inl h
  · exact .inr ⟨m, u, by simpa using h⟩
def addR (R : Nat → List Nat) (a b : Nat) (v : Nat) : List Nat := if v = a then R a ++ [b] else if v = b then R b ++ [a] else R v
def loneN (N : Nat) (R : Nat → List Nat) : Nat := ((List.range N).filter fun v => decide (R v = [])).length
def PlN (N : Nat) (R : Nat → List Nat) (k : Nat) : Prop := ∃ C, Dec (nxt R) (dartsOf R (List.range N)) C ∧ C.length + loneN N R = k
theorem filter_point {N a : Nat} (ha : a < N) {p q : Nat → Bool} (hp : p a = true) (hq : q a = false) (ho : ∀ v, v ≠ a → q v = p v) : ((List.range N).filter q).length + 1 = ((List.range N).filter p).length := by
  have h : (a :: (List.range N).filter q).Perm ((List.range N).filter p) := perm_of_nodup (List.nodup_cons.2 ⟨fun h => (by rw [(List.mem_filter.1 h).2] at hq; cases hq), List.nodup_range.sublist List.filter_sublist⟩) (List.nodup_range.sublist List.filter_sublist) fun v => by
    rw [List.mem_cons, List.mem_filter, List.mem_filter, List.mem_range]
    by_cases hv : v = a
    · subst hv; simp [hp, ha]
    · simp [hv, ho v hv]
  simpa using h.length_eq
theorem add_edge {N : Nat} {l : List (Nat × Nat)} {R : Nat → List Nat} (hS : Sys l R) (hlt : ∀ v, ∀ u ∈ R v, u < N ∧ v < N) {a b k : Nat} (ha : a < N) (hb : b < N) (hab : a ≠ b) (hn : b ∉ R a) (h : PlN N R k) : ∃ k', PlN N (addR R a b) k' ∧ k ≤ k' + 1 := by
  obtain ⟨C, hC, hk⟩ := h
  have hn2 : a ∉ R b := fun h => hn (hS.sym h)
  have Ra : addR R a b a = R a ++ [b] := if_pos rfl
  have Rb : addR R a b b = R b ++ [a] := by rw [addR, if_neg (Ne.symm hab), if_pos rfl]
  have Ro : ∀ v, v ≠ a → v ≠ b → addR R a b v = R v := fun v h1 h2 => by rw [addR, if_neg h1, if_neg h2]
  have na : (R a ++ [b]).Nodup := List.nodup_append.2 ⟨hS.nd a, by simp, fun x hx y hy e => by
    obtain rfl : y = b := by simpa using hy
    exact hn (e ▸ hx)⟩
  have nb : (R b ++ [a]).Nodup := List.nodup_append.2 ⟨hS.nd b, by simp, fun x hx y hy e => by
    obtain rfl : y = a := by simpa using hy
    exact hn2 (e ▸ hx)⟩
  have hds : ∀ d, d ∈ dartsOf R (List.range N) ↔ d.2 ∈ R d.1 := fun d => by
    rw [mem_darts, List.mem_range]
    exact ⟨fun h => h.2, fun h => ⟨(hlt _ _ h).2, h⟩⟩
  generalize hD : dartsOf R (List.range N) = ds at *
  have hx1 : (b, a) ∉ ds := fun h => hn2 ((hds _).1 h)
  have hx2 : (a, b) ∉ (b, a) :: ds := fun h => by
    rcases List.mem_cons.1 h with h | h
    · exact hab (Prod.mk.inj h).1
    · exact hn ((hds _).1 h)
  have hdarts : ((a, b) :: (b, a) :: ds).Perm (dartsOf (addR R a b) (List.range N)) := by
    have hnd : (dartsOf (addR R a b) (List.range N)).Nodup := by
      rw [dartsOf, List.flatMap_def, nodup_flat]
      refine ⟨fun B hB => ?_, ?_⟩
      · obtain ⟨u, hu, rfl⟩ := List.mem_map.1 hB
        rw [vc, List.Nodup, List.pairwise_map]
        have : (addR R a b u).Nodup := by
          by_cases h1 : u = a
          · subst h1; rw [Ra]; exact na
          · by_cases h2 : u = b
            · subst h2; rw [Rb]; exact nb
            · rw [Ro u h1 h2]; exact hS.nd u
        exact this.imp fun h e => h (Prod.mk.inj e).2
      · rw [List.pairwise_map]
        refine List.nodup_range.imp fun {u v} huv x hx hy => huv ?_
        rw [← (mem_vc.1 hx).1, ← (mem_vc.1 hy).1]
    refine perm_of_nodup (List.nodup_cons.2 ⟨hx2, List.nodup_cons.2 ⟨hx1, hC.nd⟩⟩) hnd fun d => ?_
    rw [List.mem_cons, List.mem_cons, hds, mem_darts, List.mem_range]
    obtain ⟨d1, d2⟩ := d
    simp only [Prod.mk.injEq]
    by_cases h1 : d1 = a
    · subst h1
      rw [Ra, List.mem_append, List.mem_singleton]
      constructor
      · rintro (h | h | h)
        · exact ⟨ha, .inr h.2⟩
        · exact absurd h.1 hab
        · exact ⟨ha, .inl h⟩
      · rintro ⟨_, h | h⟩
        · exact .inr (.inr h)
        · exact .inl ⟨rfl, h⟩
    · by_cases h2 : d1 = b
      · subst h2
        rw [Rb, List.mem_append, List.mem_singleton]
        constructor
        · rintro (h | h | h)
          · exact absurd h.1 h1
          · exact ⟨hb, .inr h.2⟩
          · exact ⟨hb, .inl h⟩
        · rintro ⟨_, h | h⟩
          · exact .inr (.inr h)
          · exact .inr (.inl ⟨rfl, h⟩)
      · rw [Ro d1 h1 h2]
        constructor
        · rintro (h | h | h)
          · exact absurd h.1 h1
          · exact absurd h.1 h2
          · exact ⟨(hlt _ _ h).2, h⟩
        · rintro ⟨_, h⟩
          exact .inr (.inr h)
  -- the darts ahead of the new ones
  obtain ⟨ya, hya2, hyab, hya3⟩ : ∃ ya : Nat × Nat, ya.2 = a ∧ nxt (addR R a b) ya = (a, b) ∧ ((R a = [] ∧ ya = (b, a)) ∨ (R a ≠ [] ∧ ya ∈ ds ∧ nxt (addR R a b) (b, a) = nxt R ya ∧ ∀ m, R a = m ++ [ya.1] ∨ ∀ u, R a = m ++ [u] → False)) := by
    rcases last_cases (R a) with h | ⟨m, u, h⟩
    · refine ⟨(b, a), rfl, ?_, .inl ⟨h, rfl⟩⟩
      simp only [nxt, Ra, h, List.nil_append]
      simp [cyc]
    · refine ⟨(u, a), rfl, ?_, .inr ⟨by simp [h], (hds _).2 (hS.sym (by rw [h]; simp)), ?_, fun m' => ?_⟩⟩
      · simp only [nxt, Ra]
        rw [cyc_last na h]
      · simp only [nxt, Ra]
        rw [cyc_head na rfl, cyc_head (hS.nd a) h, h]
        cases m <;> simp
      · by_cases hm : m' = m
        · subst hm; exact .inl h
        · refine .inr fun u' h' => hm ?_
          rw [h] at h'
          exact (List.append_inj' h' rfl).1.symm
  obtain ⟨yb, hyb2, hyba, hyb3⟩ : ∃ yb : Nat × Nat, yb.2 = b ∧ nxt (addR R a b) yb = (b, a) ∧ ((R b = [] ∧ yb = (a, b)) ∨ (R b ≠ [] ∧ yb ∈ ds ∧ nxt (addR R a b) (a, b) = nxt R yb ∧ ∀ m, R b = m ++ [yb.1] ∨ ∀ u, R b = m ++ [u] → False)) := by
    rcases last_cases (R b) with h | ⟨m, u, h⟩
    · refine ⟨(a, b), rfl, ?_, .inl ⟨h, rfl⟩⟩
      simp only [nxt, Rb, h, List.nil_append]
      simp [cyc]
    · refine ⟨(u, b), rfl, ?_, .inr ⟨by simp [h], (hds _).2 (hS.sym (by rw [h]; simp)), ?_, fun m' => ?_⟩⟩
      · simp only [nxt, Rb]
        rw [cyc_last nb h]
      · simp only [nxt, Rb]
        rw [cyc_head nb rfl, cyc_head (hS.nd b) h, h]
        cases m <;> simp
      · by_cases hm : m' = m
        · subst hm; exact .inl h
        · refine .inr fun u' h' => hm ?_
          rw [h] at h'
          exact (List.append_inj' h' rfl).1.symm
  have hyne : ya ≠ yb := fun e => hab (by rw [← hya2, ← hyb2, e])
  have hold : ∀ z ∈ ds, z ≠ ya → z ≠ yb → nxt (addR R a b) z = nxt R z := fun z hz h1 h2 => by
    have hz2 := (hds z).1 hz
    obtain ⟨z1, z2⟩ := z
    have hz3 := hS.sym hz2
    simp only [nxt]
    by_cases e1 : z2 = a
    · subst e1
      rw [Ra]
      congr 1
      refine cyc_mid na hz3 fun m hm => ?_
      rcases hya3 with ⟨h, _⟩ | ⟨_, _, _, h⟩
      · rw [h] at hz3; simp at hz3
      · rcases h m with h | h
        · rw [hm] at h
          have := (List.append_inj' h rfl).2
          simp at this
          exact h1 (Prod.ext this hya2.symm)
        · exact h z1 hm
    · by_cases e2 : z2 = b
      · subst e2
        rw [Rb]
        congr 1
        refine cyc_mid nb hz3 fun m hm => ?_
        rcases hyb3 with ⟨h, _⟩ | ⟨_, _, _, h⟩
        · rw [h] at hz3; simp at hz3
        · rcases h m with h | h
          · rw [hm] at h
            have := (List.append_inj' h rfl).2
            simp at this
            exact h2 (Prod.ext this hyb2.symm)
          · exact h z1 hm
      · rw [Ro z2 e1 e2]
  let q2 : Nat × Nat → Nat × Nat := swp (nxt (addR R a b)) ya yb
  let q1 : Nat × Nat → Nat × Nat := fun z => if z = yb then nxt R yb else q2 z
  have q2a : q2 ya = (b, a) := (swp_x _ _ _).trans hyba
  have q2b : q2 yb = (a, b) := (swp_y hyne).trans hyab
  have q2o : ∀ z, z ≠ ya → z ≠ yb → q2 z = nxt (addR R a b) z := fun z h1 h2 => swp_o h1 h2
  have q1o : ∀ z, z ≠ yb → q1 z = q2 z := fun z h => if_neg h
  have q1b : q1 yb = nxt R yb := if_pos rfl
  have hx1b : ((b, a) : Nat × Nat) ≠ yb := fun e => hab (by rw [← hyb2, ← e])
  have hx2a : ((a, b) : Nat × Nat) ≠ ya := fun e => hab (by rw [← hya2, ← e])
  obtain ⟨C1, d1, l1⟩ : ∃ C1, Dec q1 ((b, a) :: ds) C1 ∧ C1.length = C.length + (if R a = [] then 1 else 0) := by
    rcases hya3 with ⟨h1, h2⟩ | ⟨h1, h2, h3, _⟩
    · refine ⟨[(b, a)] :: C, hC.lone hx1 ?_ fun z hz => ?_, by simp [h1]⟩
      · rw [q1o _ hx1b, ← h2, q2a, h2]
      · by_cases e : z = yb
        · rw [e, q1b]
        · rw [q1o z e, q2o z (fun e2 => hx1 (by rw [← h2, ← e2]; exact hz)) e, hold z hz (fun e2 => hx1 (by rw [← h2, ← e2]; exact hz)) e]
    · obtain ⟨C1, l1, d1⟩ := hC.insert (q := q1) h2 hx1 (by rw [q1o _ hyne, q2a]) (by
        rw [q1o _ hx1b, q2o _ (fun e => hx1 (by rw [e]; exact h2)) hx1b, h3]) fun z hz h4 => by
          by_cases e : z = yb
          · rw [e, q1b]
          · rw [q1o z e, q2o z h4 e, hold z hz h4 e]
      exact ⟨C1, d1, by simp [h1, l1]⟩
  obtain ⟨C2, d2, l2⟩ : ∃ C2, Dec q2 ((a, b) :: (b, a) :: ds) C2 ∧ C2.length = C1.length + (if R b = [] then 1 else 0) := by
    rcases hyb3 with ⟨h1, h2⟩ | ⟨h1, h2, h3, _⟩
    · refine ⟨[(a, b)] :: C1, d1.lone hx2 ?_ fun z hz => ?_, by simp [h1]⟩
      · rw [← h2, q2b, h2]
      · exact (q1o z fun e => hx2 (by rw [← h2, ← e]; exact hz)).symm
    · obtain ⟨C2, l2, d2⟩ := d1.insert (q := q2) (.tail _ h2) hx2 q2b (by
        rw [q1b, q2o _ hx2a (fun e => hx2 (by rw [e]; exact .tail _ h2)), h3]) fun z hz h4 => (q1o z h4).symm
      exact ⟨C2, d2, by simp [h1, l2]⟩
  have hyam : ya ∈ (a, b) :: (b, a) :: ds := by
    rcases hya3 with ⟨_, h⟩ | ⟨_, h, _⟩
    · rw [h]; simp
    · simp [h]
  have hybm : yb ∈ (a, b) :: (b, a) :: ds := by
    rcases hyb3 with ⟨_, h⟩ | ⟨_, h, _⟩
    · rw [h]; simp
    · simp [h]
  obtain ⟨C3, d3, l3⟩ := d2.swap hyam hybm hyne
  have d4 : Dec (nxt (addR R a b)) (dartsOf (addR R a b) (List.range N)) C3 := (d3.congr fun z _ => swp_swp hyne z).to hdarts
  refine ⟨_, ⟨C3, d4, rfl⟩, ?_⟩
  -- the lone ones
  have e1 : loneN N (addR R a b) + (if R a = [] then 1 else 0) + (if R b = [] then 1 else 0) = loneN N R := by
    let R1 : Nat → List Nat := fun v => if v = a then R a ++ [b] else R v
    have s1 : loneN N R1 + (if R a = [] then 1 else 0) = loneN N R := by
      by_cases h : R a = []
      · rw [if_pos h]
        exact filter_point ha (by simp [h]) (by simp [R1]) fun v hv => by simp [R1, hv]
      · rw [if_neg h, loneN, loneN, Nat.add_zero]
        congr 1
        apply List.filter_congr
        intro v _
        by_cases hv : v = a
        · subst hv; simp [R1, h]
        · simp [R1, hv]
    have s2 : loneN N (addR R a b) + (if R b = [] then 1 else 0) = loneN N R1 := by
      by_cases h : R b = []
      · rw [if_pos h]
        exact filter_point hb (by simp [R1, h, Ne.symm hab]) (by simp [Rb]) fun v hv => by
          by_cases hva : v = a
          · subst hva; simp [R1, Ra]
          · simp [R1, hva, Ro v hva hv]
      · rw [if_neg h, loneN, loneN, Nat.add_zero]
        congr 1
        apply List.filter_congr
        intro v _
        by_cases hv : v = b
        · subst hv; simp [R1, Rb, h, Ne.symm hab]
        · by_cases hva : v = a
          · subst hva; simp [R1, Ra]
          · simp [R1, hva, Ro v hva hv]
    omega
  omega
end Fil
end
section
set_option linter.unusedVariables false
namespace Fil
def rootsW (N : Nat) (lab : Nat → Nat) : List Nat := (List.range N).filter fun v => lab v == v
def joinsL (N : Nat) (lab : Nat → Nat) : List Nat := (rootsW N lab).drop 1
def joinE (js : List Nat) : List E := js.map fun b : Nat => ((0 : Int), (b : Int), (0 : Int))
theorem filter_two {α : Type} (p : α → Bool) : ∀ (l : List α), (l.filter p).length + (l.filter fun x => !p x).length = l.length
  | [] => rfl
  | a :: l => by
    have := filter_two p l
    rw [List.filter_cons, List.filter_cons]
    cases p a <;> simp <;> omega
def joinRF (R : List (List Nat)) (js : List Nat) : List (List Nat) := (List.range R.length).map fun v => if v = 0 then rf R v ++ js else if v ∈ js then rf R v ++ [0] else rf R v
variable {n : Int} {es : List E} {R : List (List Nat)} {o lab o' lab' : Nat → Nat}
theorem comps_rootsW (N : Nat) (lab : Nat → Nat) : compsS N lab = (rootsW N lab).map fun r => (List.range N).filter fun u => lab u == r := rfl
theorem rootsW_zero {N : Nat} (h0 : 0 < N) (hle : ∀ v, v < N → lab v ≤ v) : rootsW N lab = 0 :: joinsL N lab := by
  have h : lab 0 = 0 := by have := hle 0 h0; omega
  obtain ⟨m, rfl⟩ : ∃ m, N = m + 1 := ⟨N - 1, by omega⟩
  rw [joinsL, rootsW, List.range_succ_eq_map, List.filter_cons, if_pos (by simp [h])]
  rfl
theorem mem_rootsW {N : Nat} {v : Nat} : v ∈ rootsW N lab ↔ v < N ∧ lab v = v := by
  rw [rootsW, List.mem_filter, List.mem_range]; simp
theorem rootsW_nodup (N : Nat) (lab : Nat → Nat) : (rootsW N lab).Nodup := List.nodup_range.sublist List.filter_sublist
theorem mem_joins {N : Nat} (h0 : 0 < N) (hle : ∀ v, v < N → lab v ≤ v) {v : Nat} : v ∈ joinsL N lab ↔ v < N ∧ lab v = v ∧ v ≠ 0 := by
  have h1 := rootsW_nodup N lab
  have h2 := mem_rootsW (N := N) (lab := lab) (v := v)
  rw [rootsW_zero h0 hle] at h1 h2
  rw [List.nodup_cons] at h1
  rw [List.mem_cons] at h2
  constructor
  · intro h
    obtain ⟨a, b⟩ := h2.1 (.inr h)
    exact ⟨a, b, fun e => h1.1 (e ▸ h)⟩
  · rintro ⟨a, b, c⟩
    exact (h2.2 ⟨a, b⟩).resolve_left c
theorem rf_of {R : List (List Nat)} {v : Nat} (h : R.length ≤ v) : rf R v = [] := by rw [rf, List.getD_eq_getElem?_getD, List.getElem?_eq_none h]; rfl
theorem joinRF_rf {R : List (List Nat)} {js : List Nat} (h0 : 0 < R.length) (hj : ∀ j ∈ js, j < R.length) (v : Nat) : rf (joinRF R js) v = if v = 0 then rf R v ++ js else if v ∈ js then rf R v ++ [0] else rf R v := by
  by_cases hv : v < R.length
  · rw [rf, List.getD_eq_getElem?_getD, joinRF, List.getElem?_map, List.getElem?_range hv]; rfl
  · rw [rf_of (by rw [joinRF]; simp; omega), if_neg (by omega), if_neg (fun h => by have := hj v h; omega), rf_of (by omega)]
theorem joinRF_nil (R : List (List Nat)) : joinRF R [] = R := by
  apply List.ext_getElem?
  intro i
  rw [joinRF, List.getElem?_map]
  by_cases h : i < R.length
  · rw [List.getElem?_range h, List.getElem?_eq_getElem h]
    simp [rf, List.getD_eq_getElem?_getD, List.getElem?_eq_getElem h]
  · rw [List.getElem?_eq_none (by simp; omega), List.getElem?_eq_none (by omega)]; rfl
theorem joinRF_length (R : List (List Nat)) (js : List Nat) : (joinRF R js).length = R.length := by simp [joinRF]
theorem joinRF_add {R : List (List Nat)} {js : List Nat} {b : Nat} (h0 : 0 < R.length) (hj : ∀ j ∈ js ++ [b], j < R.length) (hb : b ≠ 0) (hbj : b ∉ js) (h0j : 0 ∉ js) : rf (joinRF R (js ++ [b])) = addR (rf (joinRF R js)) 0 b := by
  funext v
  have hj' : ∀ j ∈ js, j < R.length := fun j h => hj j (List.mem_append.2 (.inl h))
  rw [joinRF_rf h0 hj, addR, joinRF_rf h0 hj', joinRF_rf h0 hj', joinRF_rf h0 hj']
  by_cases h1 : v = 0
  · subst h1; simp
  · rw [if_neg h1, if_neg h1, if_neg h1]
    by_cases h2 : v = b
    · subst h2; simp [h1, hbj]
    · rw [if_neg h2]
      simp [h2]
theorem Sys.add {l : List (Nat × Nat)} {R : Nat → List Nat} (hS : Sys l R) {a b : Nat} (hab : a < b) (hn : b ∉ R a) : Sys (l ++ [(a, b)]) (addR R a b) where
  nd v := by
    have hn2 : a ∉ R b := fun h => hn (hS.sym h)
    unfold addR
    split
    · exact List.nodup_append.2 ⟨hS.nd a, by simp, fun x hx y hy e => by
        obtain rfl : y = b := by simpa using hy
        exact hn (e ▸ hx)⟩
    · split
      · exact List.nodup_append.2 ⟨hS.nd b, by simp, fun x hx y hy e => by
          obtain rfl : y = a := by simpa using hy
          exact hn2 (e ▸ hx)⟩
      · exact hS.nd v
  ed u v := by
    have h := hS.ed u v
    simp only [List.mem_append, List.mem_singleton, Prod.mk.injEq]
    unfold addR
    split
    · rename_i e
      subst e
      rw [List.mem_append, h, List.mem_singleton]
      constructor
      · rintro ((h | h) | h)
        · exact .inl (.inl h)
        · exact .inr (.inl h)
        · exact .inl (.inr ⟨rfl, h⟩)
      · rintro ((h | h) | h | h)
        · exact .inl (.inl h)
        · exact .inr h.2
        · exact .inl (.inr h)
        · omega
    · split
      · rename_i e1 e2
        subst e2
        rw [List.mem_append, h, List.mem_singleton]
        constructor
        · rintro ((h | h) | h)
          · exact .inl (.inl h)
          · exact .inr (.inl h)
          · exact .inr (.inr ⟨h, rfl⟩)
        · rintro ((h | h) | h | h)
          · exact .inl (.inl h)
          · exact absurd h.1 e1
          · exact .inl (.inr h)
          · exact .inr h.1
      · rename_i e1 e2
        rw [h]
        constructor
        · rintro (h | h)
          · exact .inl (.inl h)
          · exact .inr (.inl h)
        · rintro ((h | h) | h | h)
          · exact .inl h
          · exact absurd h.1 e1
          · exact .inr h
          · exact absurd h.2 e2
  lt e he := by
    rcases List.mem_append.1 he with he | he
    · exact hS.lt e he
    · obtain rfl : e = (a, b) := by simpa using he
      exact hab
  ndl := List.nodup_append.2 ⟨hS.ndl, by simp, fun x hx y hy e => by
    obtain rfl : y = (a, b) := by simpa using hy
    exact hn ((hS.ed b a).2 (.inl (e ▸ hx)))⟩
theorem joins_in (h : Lev n.toNat (nb (tn es)) o lab) (hG : RightG n es) (hRot : RotL n.toNat (tn es) R) {j : Nat} (h0 : 0 < n.toNat) (hj : j ∈ joinsL n.toNat lab) : j < n.toNat ∧ j ≠ 0 ∧ j ∉ rf R 0 ∧ 0 ∉ rf R j := by
  obtain ⟨h1, h2, h3⟩ := (mem_joins h0 h.le).1 hj
  have h00 : lab 0 = 0 := by have := h.le 0 h0; omega
  refine ⟨h1, h3, fun hh => ?_, fun hh => ?_⟩
  · have := (h.edge 0 h0 j ((hRot.mem hG).1 hh)).1
    omega
  · have := (h.edge j h1 0 ((hRot.mem hG).1 hh)).1
    omega
theorem joins_pl (h : Lev n.toNat (nb (tn es)) o lab) (hG : RightG n es) (hRot : RotL n.toNat (tn es) R) (h0 : 0 < n.toNat) {k0 : Nat} (hk0 : PlN n.toNat (rf R) k0) : ∀ k, k ≤ (joinsL n.toNat lab).length →
    Sys (tn es ++ ((joinsL n.toNat lab).take k).map fun b => (0, b)) (rf (joinRF R ((joinsL n.toNat lab).take k))) ∧ ∃ k', PlN n.toNat (rf (joinRF R ((joinsL n.toNat lab).take k))) k' ∧ k0 ≤ k' + k := by
  have hjs := fun j (hj : j ∈ joinsL n.toNat lab) => joins_in h hG hRot h0 hj
  have hlen := hRot.len
  have hnd : (joinsL n.toNat lab).Nodup := (rootsW_nodup n.toNat lab).sublist (List.drop_sublist _ _)
  intro k
  induction k with
  | zero =>
    intro _
    rw [List.take_zero, joinRF_nil]
    exact ⟨by simpa using hRot.sys hG, k0, hk0, by omega⟩
  | succ k ih =>
    intro hk
    obtain ⟨hS, k', hP, hk'⟩ := ih (by omega)
    have hb : (joinsL n.toNat lab)[k]? = some (joinsL n.toNat lab)[k] := List.getElem?_eq_getElem (by omega)
    generalize hbb : (joinsL n.toNat lab)[k] = b at hb
    obtain ⟨b1, b2, b3, b4⟩ := hjs b (List.mem_of_getElem? hb)
    have htk : (joinsL n.toNat lab).take (k + 1) = (joinsL n.toNat lab).take k ++ [b] := by rw [List.take_add_one, hb]; rfl
    have hbn : b ∉ (joinsL n.toNat lab).take k := fun hh => by
      rw [← List.take_append_drop k (joinsL n.toNat lab), List.nodup_append] at hnd
      refine hnd.2.2 b hh b ?_ rfl
      rw [List.drop_eq_getElem_cons (by omega), hbb]; simp
    have hin : ∀ j ∈ (joinsL n.toNat lab).take k ++ [b], j < R.length := fun j hj => by
      rw [← htk] at hj
      rw [hlen]; exact (hjs j (List.mem_of_mem_take hj)).1
    have h0n : 0 ∉ (joinsL n.toNat lab).take k := fun hh => (hjs 0 (List.mem_of_mem_take hh)).2.1 rfl
    have hin' : ∀ j ∈ (joinsL n.toNat lab).take k, j < R.length := fun j hj => hin j (List.mem_append.2 (.inl hj))
    have e := joinRF_add (R := R) (js := (joinsL n.toNat lab).take k) (b := b) (by omega) hin b2 hbn h0n
    have hbR : b ∉ rf (joinRF R ((joinsL n.toNat lab).take k)) 0 := by
      rw [joinRF_rf (by omega) hin', if_pos rfl, List.mem_append]
      rintro (h | h)
      · exact b3 h
      · exact hbn h
    rw [htk, e]
    have hlt : ∀ v, ∀ u ∈ rf (joinRF R ((joinsL n.toNat lab).take k)) v, u < n.toNat ∧ v < n.toNat := fun v u hu => by
      by_cases hv : v < n.toNat
      · refine ⟨?_, hv⟩
        rw [joinRF_rf (by omega) hin'] at hu
        split at hu
        · rcases List.mem_append.1 hu with hu | hu
          · exact (hRot.lt hG hu).1
          · have := hin' u hu; omega
        · split at hu
          · rcases List.mem_append.1 hu with hu | hu
            · exact (hRot.lt hG hu).1
            · obtain rfl : u = 0 := by simpa using hu
              exact h0
          · exact (hRot.lt hG hu).1
      · rw [rf_of (by rw [joinRF_length]; omega)] at hu
        simp at hu
    refine ⟨?_, ?_⟩
    · rw [List.map_append, ← List.append_assoc]
      exact hS.add (by omega) hbR
    · obtain ⟨k'', p1, p2⟩ := add_edge hS hlt h0 b1 (Ne.symm b2) hbR hP
      exact ⟨k'', p1, by omega⟩
theorem nb_perm {l l' : List (Nat × Nat)} (h : l.Perm l') (v : Nat) : (nb l v).Perm (nb l' v) := h.filterMap _
theorem nb_app (l l' : List (Nat × Nat)) (v : Nat) : nb (l ++ l') v = nb l v ++ nb l' v := List.filterMap_append
theorem nb_joins : ∀ {js : List Nat}, 0 ∉ js → js.Nodup → ∀ v, nb (js.map fun b => (0, b)) v = if v = 0 then js else if v ∈ js then [0] else []
  | [], _, _, v => by simp [nb]
  | j :: js, h0, hn, v => by
    rw [List.nodup_cons] at hn
    have ih := nb_joins (js := js) (fun h => h0 (.tail _ h)) hn.2 v
    have hj : j ≠ 0 := fun e => h0 (e ▸ .head _)
    rw [nb] at ih
    rw [nb, List.map_cons, List.filterMap_cons]
    by_cases h1 : v = 0
    · subst h1
      simp at ih ⊢
      exact ih
    · rw [if_neg h1] at ih ⊢
      rw [if_neg (fun e => h1 e.symm)]
      by_cases h2 : j = v
      · subst h2
        simp [hn.1] at ih ⊢
        exact ih
      · simp only [h2, if_false, ih, List.mem_cons, show ¬ v = j from fun e => h2 e.symm, false_or]
theorem tn_joinE (js : List Nat) : tn (joinE js) = js.map fun b => (0, b) := by simp [tn, joinE, Function.comp_def]
theorem tn_append (a b : List E) : tn (a ++ b) = tn a ++ tn b := by simp [tn]
theorem join_rot (h : Lev n.toNat (nb (tn es)) o lab) (hG : RightG n es) (hRot : RotL n.toNat (tn es) R) (h0 : 0 < n.toNat) {es' : List E} (hp : es'.Perm (es ++ joinE (joinsL n.toNat lab))) : RotL n.toNat (tn es') (joinRF R (joinsL n.toNat lab)) where
  len := by rw [joinRF_length]; exact hRot.len
  perm v hv := by
    have hjs := fun j (hj : j ∈ joinsL n.toNat lab) => joins_in h hG hRot h0 hj
    have hnd : (joinsL n.toNat lab).Nodup := (rootsW_nodup n.toNat lab).sublist (List.drop_sublist _ _)
    have hlen := hRot.len
    have h0n : 0 ∉ joinsL n.toNat lab := fun hh => (hjs 0 hh).2.1 rfl
    have e1 : (nb (tn es') v).Perm (nb (tn es) v ++ if v = 0 then joinsL n.toNat lab else if v ∈ joinsL n.toNat lab then [0] else []) := by
      refine (nb_perm (hp.map _) v).trans ?_
      rw [← tn, tn_append, tn_joinE, nb_app, nb_joins h0n hnd]
    refine List.Perm.trans ?_ e1.symm
    rw [joinRF_rf (by omega) fun j hj => by rw [hlen]; exact (hjs j hj).1]
    split
    · exact (hRot.perm v hv).append_right _
    · split
      · exact (hRot.perm v hv).append_right _
      · rw [List.append_nil]; exact hRot.perm v hv
theorem join_lab (h : Lev n.toNat (nb (tn es)) o lab) (hG : RightG n es) (h0 : 0 < n.toNat) {es' : List E} (hp : es'.Perm (es ++ joinE (joinsL n.toNat lab))) (hG' : RightG n es') (h' : Lev n.toNat (nb (tn es')) o' lab') {v : Nat} (hv : v < n.toNat) : lab' v = 0 := by
  have hmem : ∀ u w, u ∈ nb (tn es') w ↔ u ∈ nb (tn es) w ∨ u ∈ nb (tn (joinE (joinsL n.toNat lab))) w := fun u w => by
    rw [(nb_perm (l := tn es') (l' := tn (es ++ joinE (joinsL n.toNat lab))) (hp.map _) w).mem_iff, tn_append, nb_app, List.mem_append]
  have h1 := h.conn v hv lab' fun w hw u hu => (h'.edge w hw u ((hmem u w).2 (.inl hu))).1
  have h00 : lab' 0 = 0 := by have := h'.le 0 h0; omega
  have h2 := h.le v hv
  have h3 := h.idem v hv
  rw [h1]
  by_cases hr : lab v = 0
  · rw [hr, h00]
  · have hj : lab v ∈ joinsL n.toNat lab := (mem_joins h0 h.le).2 ⟨by omega, h3, hr⟩
    have hne : ∀ e ∈ tn (joinE (joinsL n.toNat lab)), e.1 ≠ e.2 := fun e he => by
      rw [tn_joinE] at he
      obtain ⟨b, hb, rfl⟩ := List.mem_map.1 he
      have := (mem_joins h0 h.le).1 hb
      simp; omega
    have := (h'.edge 0 h0 (lab v) ((hmem _ _).2 (.inr ((mem_nb hne).2 (.inl (by rw [tn_joinE]; exact List.mem_map.2 ⟨_, hj, rfl⟩)))))).1
    omega
theorem join_comps (h : Lev n.toNat (nb (tn es)) o lab) (hG : RightG n es) (h0 : 0 < n.toNat) {es' : List E} (hp : es'.Perm (es ++ joinE (joinsL n.toNat lab))) (hG' : RightG n es') (h' : Lev n.toNat (nb (tn es')) o' lab') : compsS n.toNat lab' = [List.range n.toNat] := by
  rw [compsS_congr (lab' := fun _ => 0) fun v hv => join_lab h hG h0 hp hG' h' hv, comps_rootsW, rootsW_zero h0 (fun _ _ => Nat.zero_le _)]
  have : joinsL n.toNat (fun _ => 0) = [] := by
    rw [List.eq_nil_iff_forall_not_mem]
    intro v hv
    obtain ⟨_, h1, h2⟩ := (mem_joins h0 (lab := fun _ => 0) fun _ _ => Nat.zero_le _).1 hv
    exact h2 h1.symm
  rw [this]
  simp
theorem join_plane (h : Lev n.toNat (nb (tn es)) o lab) (hG : RightG n es) (hRot : RotL n.toNat (tn es) R) (h0 : 0 < n.toNat) {es' : List E} (hp : es'.Perm (es ++ joinE (joinsL n.toNat lab))) (hG' : RightG n es') (h' : Lev n.toNat (nb (tn es')) o' lab') (hjs : joinsL n.toNat lab ≠ [])
    (hP : ∀ c ∈ compsS n.toNat lab, eulerK (tn es) (facesR n.toNat (tn es) R) c = 2) : ∀ c ∈ compsS n.toNat lab', eulerK (tn es') (facesR n.toNat (tn es') (joinRF R (joinsL n.toNat lab))) c = 2 := by
  intro c hc
  have hc' := hc
  rw [join_comps h hG h0 hp hG' h'] at hc
  obtain rfl : c = List.range n.toNat := by simpa using hc
  have hRot' := join_rot h hG hRot h0 hp
  have hin := fun j (hj : j ∈ joinsL n.toNat lab) => joins_in h hG hRot h0 hj
  have hlen := hRot.len
  -- how many faces and lone vertices
  have hF := facesR_dec hG hRot
  have hF' := facesR_dec hG' hRot'
  obtain ⟨k', ⟨C, hC, hk⟩, hle⟩ := (joins_pl h hG hRot h0 (k0 := (facesR n.toNat (tn es) R).length + loneN n.toNat (rf R)) ⟨_, hF.to (darts_all hG hRot).symm, rfl⟩ (joinsL n.toNat lab).length (Nat.le_refl _)).2
  rw [List.take_length] at hC hk
  have hlone : loneN n.toNat (rf (joinRF R (joinsL n.toNat lab))) = 0 := by
    rw [loneN, List.length_eq_zero_iff, List.filter_eq_nil_iff]
    intro v hv
    have hv : v < n.toNat := List.mem_range.1 hv
    rw [decide_eq_true_eq, joinRF_rf (by omega) fun j hj => by rw [hlen]; exact (hin j hj).1]
    split
    · intro e; exact hjs (List.append_eq_nil_iff.1 e).2
    · split
      · simp
      · rename_i e1 e2
        intro e
        have hr : lab v ≠ v := fun hr => e2 ((mem_joins h0 h.le).2 ⟨hv, hr, e1⟩)
        have ho : o v ≠ 0 := fun h2 => hr ((h.root v hv).1 h2)
        obtain ⟨u, hu, _⟩ := h.up v (o v - 1) hv (by omega)
        rw [← hRot.mem hG, e] at hu
        simp at hu
  have hcount : C.length = (facesR n.toNat (tn es') (joinRF R (joinsL n.toNat lab))).length := hC.count (hF'.to (darts_all hG' hRot').symm)
  have hsum := euler_sum hG hRot h hP
  have hn1 : (nearP n.toNat (tn es)).length + loneN n.toNat (rf R) = n.toNat := by
    have h1 : ((List.range n.toNat).filter fun v => decide (0 < (nearS (tn es) v).length)).length + ((List.range n.toNat).filter fun v => !decide (0 < (nearS (tn es) v).length)).length = n.toNat := by
      have := filter_two (fun v => decide (0 < (nearS (tn es) v).length)) (List.range n.toNat)
      rwa [List.length_range] at this
    rw [nearP, loneN, ← List.filter_congr (p := fun v => !decide (0 < (nearS (tn es) v).length)) (q := fun v => decide (rf R v = []))]
    · exact h1
    · intro v hv
      have hv : v < n.toNat := List.mem_range.1 hv
      have e1 : (nearS (tn es) v).length = (rf R v).length := by rw [nearS, List.length_mergeSort]; exact (hRot.perm v hv).length_eq.symm
      rw [e1]
      cases hr : rf R v <;> simp
  have hcs : (compsS n.toNat lab).length ≤ ((compsS n.toNat lab).filter fun c => decide (1 < c.length)).length + loneN n.toNat (rf R) := by
    have h1 := filter_two (fun c : List Nat => decide (1 < c.length)) (compsS n.toNat lab)
    have h2 : (((compsS n.toNat lab).filter fun c => !decide (1 < c.length)).map fun c => c.headD 0).length ≤ loneN n.toNat (rf R) := by
      refine sub_length ?_ fun v hv => ?_
      · have hh : (compsS n.toNat lab).map (fun c => c.headD 0) = rootsW n.toNat lab := by
          rw [comps_rootsW, List.map_map]
          refine (List.map_congr_left fun r hr => ?_).trans (List.map_id _)
          obtain ⟨h1, h2⟩ := mem_rootsW.1 hr
          obtain ⟨t, ht⟩ := comp_head h1 h2 h.le
          simp [ht]
        have := rootsW_nodup n.toNat lab
        rw [← hh] at this
        exact this.sublist (List.filter_sublist.map _)
      · obtain ⟨c, hc, rfl⟩ := List.mem_map.1 hv
        obtain ⟨c1, c2⟩ := List.mem_filter.1 hc
        have hl : c.length = 1 := by
          have := List.length_pos_iff.2 (comp_ne c1)
          simp at c2; omega
        have hd := (single hG hRot h c1 hl).1
        obtain ⟨v, rfl⟩ := List.length_eq_one_iff.1 hl
        obtain ⟨r, hr, _, hre⟩ := comp_mem c1
        have hvn : v < n.toNat := by
          have : v ∈ [v] := .head _
          rw [hre] at this
          exact List.mem_range.1 (List.mem_filter.1 this).1
        refine List.mem_filter.2 ⟨List.mem_range.2 hvn, ?_⟩
        simp [dartsOf, vc] at hd
        simp [hd]
    rw [List.length_map] at h2
    omega
  have hcl : (compsS n.toNat lab).length = (joinsL n.toNat lab).length + 1 := by rw [comps_rootsW, List.length_map, rootsW_zero h0 h.le]; rfl
  have hpl := List.length_pos_iff.2 hjs
  -- the number
  obtain ⟨g, hg⟩ := euler_two hG' hRot' h' hF' hc'
  have hjl : (joinE (joinsL n.toNat lab)).length = (joinsL n.toNat lab).length := by simp [joinE]
  have hel := hp.length_eq
  rw [List.length_append, hjl] at hel
  have hN1 : n.toNat ≠ 1 := fun e => by
    obtain ⟨j, hj⟩ := List.exists_mem_of_ne_nil _ hjs
    have := hin j hj
    omega
  have f1 : (tn es').filter (fun e => decide (e.1 ∈ List.range n.toNat)) = tn es' := by
    rw [List.filter_eq_self]
    intro e he
    have := hG'.good.lt e he
    simp; omega
  have f2 : (facesR n.toNat (tn es') (joinRF R (joinsL n.toNat lab))).filter (fun f => decide ((f.headD (0, 0)).1 ∈ List.range n.toNat)) = facesR n.toNat (tn es') (joinRF R (joinsL n.toNat lab)) := by
    rw [List.filter_eq_self]
    intro f hf
    obtain ⟨d, t, rfl⟩ := List.exists_cons_of_ne_nil (hF'.cy f hf).1
    have := (dart_lt hG' (hF'.perm.mem_iff.1 (List.mem_flatten.2 ⟨_, hf, .head _⟩))).1
    simpa using this
  rw [eulerK, f1, f2, List.length_range, if_neg hN1, tn_len] at hg ⊢
  omega
end Fil
end
section
set_option linter.unusedVariables false
namespace Go.Proofs.YtpajjnkmaebhcaaGreat
open Go Go.RowKit Go.Sl Fil
set_option maxRecDepth 100000
set_option maxHeartbeats 8000000
set_option linter.unusedVariables false
set_option linter.unusedSimpArgs false
attribute [local irreducible] Code.wp wpList bodyPost wpQuiet Exit.then Exit.inBlock Post wpAnyH wpOp
theorem join1_ok (a b N : Nat) (bl bo : Nat) (vl vo : Value) (l : List E) (hs : List Value) (A : List (List Nat)) (w : World) (S : FS)
    (hsat : sats [boxHP bl 22 [vl], rowHP vl 40 3 l.length (esV l), boxHP bo 25 [vo], rowHP vo 41 1 N hs, starHP (kids rowN hs A)] S w) (ha : a < N) (hb : b < N) (hab : a ≠ b) (hhl : hs.length = N) (hAl : A.length = N) (hl : l.length ≤ 1000000) (hA : ∀ x ∈ A, x.length ≤ 1000000) :
    Calls Tryz.prog 19 #[.int .i64 (a : Int), .int .i64 (b : Int), .pointer (some ⟨bl, 0, none⟩), .pointer (some ⟨bo, 0, none⟩)] w (Post w S fun r L' => r = .tuple #[] ∧ ∃ (vl' : Value) (hs' : List Value), hs'.length = N ∧ L' = [boxHP bl 22 [vl'], rowHP vl' 40 3 (l ++ [((a : Int), (b : Int), (0 : Int))]).length (esV (l ++ [((a : Int), (b : Int), (0 : Int))])), boxHP bo 25 [vo], rowHP vo 41 1 N hs', starHP (kids rowN hs' ((A.set a (rf A a ++ [b])).set b (rf A b ++ [a])))]) := by
  refine enter (vs := [_, _, _, _]) Tryz.func19 rfl Tryz.ntmps19 rfl hsat ?_
  refine know_row (v := vl) (.tail _ (.head _)) fun hvl _ => ?_
  refine know_row (v := vo) (.tail _ (.tail _ (.tail _ (.head _)))) fun hvo _ => ?_
  repeat' first
    | refine c_seq ?_ | refine c_region ?_ | refine s_move (by exact rfl) (by exact rfl) ?_ | refine s_ld_box (by exact rfl) (by exact rfl) (by exact .head _) (by exact rfl) ?_ | fail
  refine o_build (cs := eV ((a : Int), (b : Int), (0 : Int))) [(0, .int .i64 (a : Int), [.int .i64 (a : Int)]), (1, .int .i64 (b : Int), [.int .i64 (b : Int)])] (by exact rfl) (by exact rfl) (by simp [Value.cells]) (by exact rfl) ?_
  refine o_mk [.agg (eV ((a : Int), (b : Int), (0 : Int))).toArray] (by exact rfl) (by exact rfl) rfl ?_ ?_ (by simp) fun v1 hv1 => ?_
  · simp [Value.cells, eV]
  · simp
  skip
  refine o_append_row (i := 2) (by exact rfl) (by exact rfl) (by exact rfl) (by exact rfl) (by exact .head _) (by exact rfl) (by simp [Value.cells, Value.oneCell', eV]) (by omega) fun v2 hv2 => ?_
  skip
  refine o_st_box (i := 1) (by exact rfl) (by exact rfl) (by exact rfl) hv2.one (by simp) ?_
  repeat' first
    | refine k_then ?_ | refine s_nil ?_ | fail
  have hAa : A[a]? = some (rf A a) := by rw [rf, List.getD_eq_getElem?_getD, List.getElem?_eq_getElem (by omega)]; rfl
  have hAb : A[b]? = some (rf A b) := by rw [rf, List.getD_eq_getElem?_getD, List.getElem?_eq_getElem (by omega)]; rfl
  have hla := hA _ (List.mem_of_getElem? hAa)
  have hlb := hA _ (List.mem_of_getElem? hAb)
  obtain ⟨hda, hha⟩ : ∃ h, hs[a]? = some h := ⟨_, List.getElem?_eq_getElem (by omega)⟩
  obtain ⟨hdb, hhb⟩ : ∃ h, hs[b]? = some h := ⟨_, List.getElem?_eq_getElem (by omega)⟩
  have hha1 : hs[a * 1]? = some hda := by rw [Nat.mul_one]; exact hha
  have hhb1 : hs[b * 1]? = some hdb := by rw [Nat.mul_one]; exact hhb
  have hll : (l ++ [((a : Int), (b : Int), (0 : Int))]).length = l.length + 1 := by simp
  have hlE : esV l ++ ([Value.agg (eV ((a : Int), (b : Int), (0 : Int))).toArray].flatMap fun u => u.cells.toList) = esV (l ++ [((a : Int), (b : Int), (0 : Int))]) := by rw [esV_append]; rfl
  rw [hll]
  refine c_pick [5, 1, 1, 1, 1] (M := [starHP (kids rowN hs A), boxHP bl 22 [v2], rowHP v2 40 3 (l.length + 1) (esV l ++ ([Value.agg (eV ((a : Int), (b : Int), (0 : Int))).toArray].flatMap fun u => u.cells.toList)), boxHP bo 25 [vo], rowHP vo 41 1 N hs]) (by exact rfl) ?_
  rw [hlE]
  refine c_take 0 a (by exact rfl) (kids_get (f := rowN) hha hAa) ?_
  refine c_take 1 b (by exact rfl) (by rw [List.getElem?_set_ne hab]; exact kids_get (f := rowN) hhb hAb) ?_
  refine p_begin3 [(0, true), (1, true), (2, true), (3, true), (4, true), (5, true), (6, true), (8, true), (11, true), (12, true), (13, true), (15, true)] [(7, true), (14, true), .tree (.two 9 (.two 10 (.one 16 .leaf) 16 (.one 10 .leaf)) 16 (.one 9 (.one 10 .leaf))), (17, false), (18, true)] [(19, false), (20, true), (21, false)] [boxHP bo 25 [vo]] (by kernel_rfl) ?_
  repeat' first
    | refine p_nil ?_
    | (refine p_at (by exact rfl) ?_
       first
        | refine t_move (by exact rfl) (by exact rfl) (by exact fun _ h => h.pick [5] (by exact rfl)) ?_ | refine t_ld_box (by exact rfl) (by exact rfl) (by exact .head _) (by exact rfl) (by exact fun _ h => h.pick [5] (by exact rfl)) ?_ | refine t_idx (by exact rfl) (by exact rfl) (by exact rfl) (by assumption) (by first | assumption | omega) (by exact fun _ h => h.pick [5] (by exact rfl)) ?_ | fail)
    | fail
  refine p_cut0 [boxHP bo 25 [vo], rowHP vo 41 1 N hs] (fun _ h => h.pick [5, 5] (by exact rfl)) (fun _ h => h.pick [0] (by exact rfl)) ?_
  refine p_at (by exact rfl) ?_
  refine t_ld_row (by exact rfl) (by exact rfl) (by exact .tail _ (.head _)) (by assumption) (fun _ h => h.pick [5, 5] (by exact rfl)) ?_
  refine p_at (by exact rfl) ?_
  refine t_ld_row (by exact rfl) (by exact rfl) (by exact .tail _ (.head _)) (by assumption) (fun _ h => h.pick [5, 5] (by exact rfl)) ?_
  refine p_join (X := Value × Value) [(17, false), (18, true)] (fun x => [(22, x.1), (28, x.2), (26, hdb), (12, vo), (13, .int .i64 (a : Int)), (14, vo), (15, .int .i64 (b : Int))]) (fun x => [rowHP x.2 3 1 1 [.int .i64 (a : Int)], rowN hdb (rf A b), rowHP x.1 3 1 ((rf A a).length + 1) (nV (rf A a) ++ [.int .i64 (b : Int)]), starHP (((kids rowN hs A).set a empHP).set b empHP), boxHP bl 22 [v2], rowHP v2 40 3 (l.length + 1) (esV (l ++ [((a : Int), (b : Int), (0 : Int))])), boxHP bo 25 [vo], rowHP vo 41 1 N hs]) (fun hk => ?_) ?_
  · refine p_two ?_ ?_
    · refine p_mk (sz := 1) [.int .i64 (b : Int)] (by exact rfl) rfl (by exact rfl) rfl (by simp [Value.cells]) (by simp) (by simp) (fun _ _ h => h.pick [6, 6] (by exact rfl)) (fun s9 hs9 => ?_)
      refine p_two ?_ ?_
      · refine p_append_row (j := 2) (by exact rfl) rfl (by exact rfl) (by exact rfl) (by exact rfl) (by exact .head _) (by exact rfl) (by simp [Value.cells, Value.oneCell']) ?_ (fun _ _ h => h.pick [6, 6] (by exact rfl)) (fun vk hvk => ?_)
        · simp only [List.length_cons, List.length_nil]; omega
        refine p_one ?_
        refine p_mk (sz := 1) [.int .i64 (a : Int)] (by exact rfl) rfl (by exact rfl) rfl (by simp [Value.cells]) (by simp) (by simp) (fun _ _ h => h.pick [7, 7] (by exact rfl)) (fun s16 hs16 => ?_)
        refine p_leaf ?_
        exact pj_end hk (vk, s16) [0, 1, 1, 1, 1, 1, 1, 1] (by exact rfl) ⟨rfl, rfl, rfl, rfl, rfl, rfl, rfl, trivial⟩
      · refine p_mk (sz := 1) [.int .i64 (a : Int)] (by exact rfl) rfl (by exact rfl) rfl (by simp [Value.cells]) (by simp) (by simp) (fun _ _ h => h.pick [7, 7] (by exact rfl)) (fun s16 hs16 => ?_)
        refine p_one ?_
        refine p_append_row (j := 3) (by exact rfl) rfl (by exact rfl) (by exact rfl) (by exact rfl) (by exact .tail _ (.head _)) (by exact rfl) (by simp [Value.cells, Value.oneCell']) ?_ (fun _ _ h => h.pick [7, 7] (by exact rfl)) (fun vk hvk => ?_)
        · simp only [List.length_cons, List.length_nil]; omega
        refine p_leaf ?_
        exact pj_end hk (vk, s16) [0, 1, 1, 1, 1, 1, 1, 1] (by exact rfl) ⟨rfl, rfl, rfl, rfl, rfl, rfl, rfl, trivial⟩
    · refine p_mk (sz := 1) [.int .i64 (a : Int)] (by exact rfl) rfl (by exact rfl) rfl (by simp [Value.cells]) (by simp) (by simp) (fun _ _ h => h.pick [6, 6] (by exact rfl)) (fun s16 hs16 => ?_)
      refine p_one ?_
      refine p_mk (sz := 1) [.int .i64 (b : Int)] (by exact rfl) rfl (by exact rfl) rfl (by simp [Value.cells]) (by simp) (by simp) (fun _ _ h => h.pick [7, 7] (by exact rfl)) (fun s9 hs9 => ?_)
      refine p_one ?_
      refine p_append_row (j := 3) (by exact rfl) rfl (by exact rfl) (by exact rfl) (by exact rfl) (by exact .head _) (by exact rfl) (by simp [Value.cells, Value.oneCell']) ?_ (fun _ _ h => h.pick [7, 7] (by exact rfl)) (fun vk hvk => ?_)
      · simp only [List.length_cons, List.length_nil]; omega
      refine p_leaf ?_
      exact pj_end hk (vk, s16) [1, 1, 1, 1, 1, 1, 1, 1] (by exact rfl) ⟨rfl, rfl, rfl, rfl, rfl, rfl, rfl, trivial⟩
  rintro ⟨vk, s16⟩
  dsimp only
  refine p_append_row (j := 1) (by exact rfl) rfl (by exact rfl) (by exact rfl) (by exact rfl) (by exact .head _) (by exact rfl) (by simp [Value.oneCell']) ?_ (fun _ _ h => h.pick [6, 6] (by exact rfl)) (fun vk2 hvk2 => ?_)
  · omega
  refine know_rowP (v := vk) (.tail _ (.tail _ (.head _))) fun hvk _ => ?_
  refine p_at (by exact rfl) ?_
  refine t_idx (by exact rfl) (by exact rfl) (by exact rfl) (by assumption) (by omega) (fun _ h => h.pick [6, 6] (by exact rfl)) ?_
  refine p_nil ?_
  refine p_cut3 [boxHP bo 25 [vo]] (fun _ h => h.pick [6] (by exact rfl)) (fun _ h => h) ?_
  refine p_st_row (j := 7) (by exact rfl) (by exact rfl) (by exact rfl) (by exact rfl) hvk.one (by omega) (fun _ h => h.pick [6] (by exact rfl)) ?_
  refine p_at (by exact rfl) ?_
  refine t_idx (by exact rfl) (by exact rfl) (by exact rfl) (by assumption) (by omega) (fun _ h => h.pick [6] (by exact rfl)) ?_
  refine p_st_row (j := 7) (by exact rfl) (by exact rfl) (by exact rfl) (by exact rfl) hvk2.one (by omega) (fun _ h => h.pick [6] (by exact rfl)) ?_
  refine p_nil ?_
  refine c_pick [1, 1, 1, 1, 1, 1, 1] (by exact rfl) ?_
  have e1 : rowHP vk 3 1 ((rf A a).length + 1) (nV (rf A a) ++ [Value.int .i64 (b : Int)]) = rowN vk (rf A a ++ [b]) := by
    rw [rowN, List.length_append, show nV (rf A a ++ [b]) = nV (rf A a) ++ [Value.int .i64 (b : Int)] by simp [nV]]; rfl
  have e2 : rowHP vk2 3 1 ((rf A b).length + 1) (nV (rf A b) ++ [Value.int .i64 (a : Int)]) = rowN vk2 (rf A b ++ [a]) := by
    rw [rowN, List.length_append, show nV (rf A b ++ [a]) = nV (rf A b) ++ [Value.int .i64 (a : Int)] by simp [nV]]; rfl
  refine c_give 1 b (by exact rfl) (by simp [kids]; omega) ?_
  refine c_give 0 a (by exact rfl) (by simp [kids]; omega) ?_
  have e3 : (((((kids rowN hs A).set a empHP).set b empHP).set b (rowN vk2 (rf A b ++ [a]))).set a (rowN vk (rf A a ++ [b]))) = kids rowN ((hs.set a vk).set b vk2) ((A.set a (rf A a ++ [b])).set b (rf A b ++ [a])) := by
    rw [List.set_set, List.set_comm _ _ (Ne.symm hab), kids_set, ← kids_set (x := empHP) (k := b), List.set_set]
  refine ret0 [1, 1, 1, 1, 0] rfl (by exact rfl) ⟨rfl, v2, (hs.set a vk).set b vk2, by simpa using hhl, ?_⟩
  rw [← e3, ← e1, ← e2, Nat.mul_one, Nat.mul_one]
end Go.Proofs.YtpajjnkmaebhcaaGreat
end
section
set_option linter.unusedVariables false
namespace Go.Proofs
open Go.Shelf
def Tryz.sortEdges_ren : Go.Shelf.Ren := ⟨fun | 6 => 37 | 15 => 50 | 14 => 51 | 28 => 69 | 29 => 70 | 20 => 71 | 21 => 72 | 22 => 73 | 23 => 74 | 24 => 75 | 25 => 76 | 26 => 77 | 27 => 78 | 46 => 90 | 47 => 86 | 48 => 87 | 49 => 91 | 50 => 92 | 57 => 104 | n => n, fun | 22 => 22 | 24 => 40 | 25 => 71 | 3 => 3 | 39 => 85 | 0 => 0 | 53 => 107 | 55 => 109 | 4 => 4 | 46 => 99 | 45 => 98 | 50 => 104 | 5 => 5 | 9 => 9 | 66 => 120 | 70 => 124 | 76 => 133 | 77 => 134 | n => n, fun | n => n⟩
theorem Tryz.sortEdges : Go.Proofs.SlLaysF0.n6 Tryz.prog Tryz.sortEdges_ren := {
  mixed := by kernel_rfl
  f6 := ⟨Tryz.f37.name, by decide, Tryz.func37.trans (congrArg some (by kernel_rfl))⟩
  f14 := ⟨Tryz.f51.name, by decide, Tryz.func51.trans (congrArg some (by kernel_rfl))⟩
  f15 := Tryz.func50.trans (congrArg some (by kernel_rfl))
  f20 := ⟨Tryz.f71.name, by decide, Tryz.func71.trans (congrArg some (by kernel_rfl))⟩
  f21 := ⟨Tryz.f72.name, by decide, Tryz.func72.trans (congrArg some (by kernel_rfl))⟩
  f22 := ⟨Tryz.f73.name, by decide, Tryz.func73.trans (congrArg some (by kernel_rfl))⟩
  f23 := ⟨Tryz.f74.name, by decide, Tryz.func74.trans (congrArg some (by kernel_rfl))⟩
  f24 := ⟨Tryz.f75.name, by decide, Tryz.func75.trans (congrArg some (by kernel_rfl))⟩
  f25 := ⟨Tryz.f76.name, by decide, Tryz.func76.trans (congrArg some (by kernel_rfl))⟩
  f26 := ⟨Tryz.f77.name, by decide, Tryz.func77.trans (congrArg some (by kernel_rfl))⟩
  f27 := ⟨Tryz.f78.name, by decide, Tryz.func78.trans (congrArg some (by kernel_rfl))⟩
  f28 := Tryz.func69.trans (congrArg some (by kernel_rfl))
  f29 := Tryz.func70.trans (congrArg some (by kernel_rfl))
  f46 := ⟨Tryz.f90.name, by decide, Tryz.func90.trans (congrArg some (by kernel_rfl))⟩
  f47 := Tryz.func86.trans (congrArg some (by kernel_rfl))
  f48 := Tryz.func87.trans (congrArg some (by kernel_rfl))
  f49 := ⟨Tryz.f91.name, by decide, Tryz.func91.trans (congrArg some (by kernel_rfl))⟩
  f50 := ⟨Tryz.f92.name, by decide, Tryz.func92.trans (congrArg some (by kernel_rfl))⟩
  f57 := ⟨Tryz.f104.name, by decide, Tryz.func104.trans (congrArg some (by kernel_rfl))⟩
  t0 := Tryz.underlying0
  a0 := Tryz.isAgg0
  z0 := Tryz.sizeOf0
  v0 := Tryz.zeroValue0
  t3 := Tryz.underlying3
  a3 := Tryz.isAgg3
  z3 := Tryz.sizeOf3
  v3 := Tryz.zeroValue3
  t4 := Tryz.underlying4
  a4 := Tryz.isAgg4
  z4 := Tryz.sizeOf4
  v4 := Tryz.zeroValue4
  t5 := Tryz.underlying5
  a5 := Tryz.isAgg5
  z5 := Tryz.sizeOf5
  v5 := Tryz.zeroValue5
  t9 := Tryz.underlying9
  a9 := Tryz.isAgg9
  z9 := Tryz.sizeOf9
  v9 := Tryz.zeroValue9
  t22 := Tryz.underlying22
  a22 := Tryz.isAgg22
  z22 := Tryz.sizeOf22
  v22 := Tryz.zeroValue22
  t25 := Tryz.underlying71
  a25 := Tryz.isAgg71
  z25 := Tryz.sizeOf71
  v25 := Tryz.zeroValue71
  t39 := Tryz.underlying85
  a39 := Tryz.isAgg85
  z39 := Tryz.sizeOf85
  v39 := Tryz.zeroValue85
  t45 := Tryz.underlying98
  a45 := Tryz.isAgg98
  z45 := Tryz.sizeOf98
  v45 := Tryz.zeroValue98
  t46 := Tryz.underlying99
  a46 := Tryz.isAgg99
  z46 := Tryz.sizeOf99
  v46 := Tryz.zeroValue99
  t50 := Tryz.underlying104
  a50 := Tryz.isAgg104
  z50 := Tryz.sizeOf104
  v50 := Tryz.zeroValue104
  t53 := Tryz.underlying107
  a53 := Tryz.isAgg107
  z53 := Tryz.sizeOf107
  v53 := Tryz.zeroValue107
  t55 := Tryz.underlying109
  a55 := Tryz.isAgg109
  z55 := Tryz.sizeOf109
  v55 := Tryz.zeroValue109
  t66 := Tryz.underlying120
  a66 := Tryz.isAgg120
  z66 := Tryz.sizeOf120
  v66 := Tryz.zeroValue120
  t70 := Tryz.underlying124
  a70 := Tryz.isAgg124
  z70 := Tryz.sizeOf124
  v70 := Tryz.zeroValue124
  t76 := Tryz.underlying133
  a76 := Tryz.isAgg133
  z76 := Tryz.sizeOf133
  v76 := Tryz.zeroValue133
  t77 := Tryz.underlying134
  a77 := Tryz.isAgg134
  z77 := Tryz.sizeOf134
  v77 := Tryz.zeroValue134 }
end Go.Proofs
namespace Go.Proofs.YtpajjnkmaebhcaaGreat
open Go Go.RowKit Go.Sl Fil Go.Sort Go.Shelf
theorem flat_esV (l : List E) : (flatK eV 3 l.toArray).toList = esV l := by
  apply List.ext_getElem?
  intro j
  by_cases hj : j < l.length * 3
  · obtain ⟨d, hd⟩ : ∃ d, l[j / 3]? = some d := ⟨_, List.getElem?_eq_getElem (by omega)⟩
    have g1 := esV_at hd
    have hlt : j / 3 < l.length := by omega
    have hdd : l[j / 3] = d := (List.getElem?_eq_some_iff.1 hd).2
    have e1 : (flatK eV 3 l.toArray).toList[j]? = some ((eV d)[j % 3]!) := by
      rw [Array.getElem?_toList]
      simp [flatK, hj, hlt, hdd]
    have e2 : (esV l)[j]? = (eV d)[j % 3]? := by
      rw [← g1, List.getElem?_take_of_lt (by omega), List.getElem?_drop]
      congr 1; omega
    rw [e1, e2]
    have : j % 3 = 0 ∨ j % 3 = 1 ∨ j % 3 = 2 := by omega
    rcases this with h | h | h <;> rw [h] <;> rfl
  · rw [List.getElem?_eq_none (by simp; omega), List.getElem?_eq_none (by rw [esV_length]; omega)]
theorem cmpK_lt3 {a b : Int} : cmpK a b < 0 ↔ a < b := by
  unfold cmpK
  (repeat' split) <;> omega
theorem cmpK_eq3 {a b : Int} : cmpK a b = 0 ↔ a = b := by
  unfold cmpK
  (repeat' split) <;> omega
theorem orderE_lt {a b : E} : orderK a b < 0 ↔ a.1 < b.1 ∨ a.1 = b.1 ∧ a.2.1 < b.2.1 := by
  unfold orderK
  split
  · rename_i h
    have := cmpK_eq3.1 h
    rw [cmpK_lt3]; omega
  · rename_i h
    have : ¬ a.1 = b.1 := fun e => h (cmpK_eq3.2 e)
    rw [cmpK_lt3]; omega
theorem swo_E : SWO (ltOf orderK) where
  irrefl x := decide_eq_false fun h => by have := orderE_lt.1 h; omega
  trans x y z h1 h2 := by
    have a := orderE_lt.1 (of_decide_eq_true h1)
    have b := orderE_lt.1 (of_decide_eq_true h2)
    exact decide_eq_true (orderE_lt.2 (by omega))
  ntrans x y z h1 h2 := by
    have a : ¬ _ := fun h => of_decide_eq_false h1 (orderE_lt.2 h)
    have b : ¬ _ := fun h => of_decide_eq_false h2 (orderE_lt.2 h)
    exact decide_eq_false fun h => by have := orderE_lt.1 h; omega
theorem edgeSort_row {w : World} {v : Value} {e : TypeId} {l : List E} {S : FS} (h : (rowHP v e 3 l.length (esV l)).sat S w) (hlen : l.length < 4611686018427387904) :
    Calls Tryz.prog 37 #[v, .func (.func 38) #[] #[]] w (Post w S fun r L' => r = .tuple #[] ∧ ∃ l' : List E, l'.Perm l ∧ l'.Pairwise (fun a b => ¬ orderK b a < 0) ∧ L' = [rowHP v e 3 l.length (esV l')]) := by
  have hnone : l.length = 0 → ∀ p, v = .slice p 0 0 → Calls Tryz.prog 37 #[v, .func (.func 38) #[] #[]] w (Post w S fun r L' => r = .tuple #[] ∧ ∃ l' : List E, l'.Perm l ∧ l'.Pairwise (fun a b => ¬ orderK b a < 0) ∧ L' = [rowHP v e 3 l.length (esV l')]) := fun h0 p hp => by
    have hl : l = [] := List.eq_nil_of_length_eq_zero h0
    subst hl
    subst hp
    have c := AnyF.slices_SortFunc_none Tryz.sortEdges p 0 (.func (.func 38) #[] #[]) w
    change Calls Tryz.prog 37 _ _ _ at c
    refine Calls.mono c ?_
    rintro e' w' ⟨rfl, hw⟩
    subst hw
    refine ⟨_, _, ⟨rfl, [], .refl _, .nil, rfl⟩, rfl, S, Mod.refl _ _, S, fun _ => False, fun _ h => h, fun _ h => h.elim, fun _ _ h => h, ?_, trivial⟩
    simpa [esV] using h
  rcases h.2 with ⟨h1, h0⟩ | ⟨g, off, cap, cur, rfl, h2, h3, h4, h5, h6, h7⟩ | ⟨⟨a0, h1⟩, h0⟩
  · exact hnone h0 none h1
  · have hg := (Array.getElem?_eq_some_iff.1 h3).1
    have hsz : (flatK eV 3 l.toArray).size = l.length * 3 := by simp
    have hH : HoldsK eV 3 w g off l.toArray := by
      intro j hj
      rw [hsz] at hj
      have hj2 : j < (flatK eV 3 l.toArray).size := by rw [hsz]; exact hj
      refine ⟨?_, by simp [World.frozen?, h3]⟩
      have h8 : ((cur.toList.drop off).take (l.length * 3))[j]? = (esV l)[j]? := by rw [h7]
      rw [List.getElem?_take_of_lt (by omega), List.getElem?_drop] at h8
      simp only [World.cell?, h3]
      simp only [Option.isSome_none, Bool.false_eq_true, if_false]
      rw [← Array.getElem?_toList, h8, ← flat_esV, Array.getElem?_toList, Array.getElem?_eq_getElem hj2, getElem!_pos _ j hj2]
      rfl
    have c := AnyQ.slices_SortFunc Tryz.sortEdges 3 (fun w => Tryz.isAgg40 w) (fun w => Tryz.sizeOf40 w) eV (fun _ => rfl) (fun x u hu => by
      simp only [eV, List.mem_cons, List.not_mem_nil, or_false] at hu
      rcases hu with rfl | rfl | rfl <;> rfl) orderK swo_E 38 #[] g off cap l.toArray w (fun args w => FnTy.c (P := Tryz.prog) (f := 38) args w) (fun m os dk _ x y => (order_ok x y _).mono fun e' w' ⟨u, L', ⟨hu, hL⟩, he, S', hm, _⟩ => by
        subst hu
        exact ⟨he, mod_grow hm⟩) hH hg (by simpa using hlen)
    change Calls Tryz.prog 37 _ _ _ at c
    refine Calls.mono c ?_
    rintro e' w' ⟨rfl, d', n, os, ⟨hp1, _, hp3⟩, hso, rfl⟩
    have hds : d'.size = l.length := by simpa using hp1
    have hperm : d'.toList.Perm l := by
      have e1 : d'.extract 0 l.toArray.size = d' := by rw [← hp1]; exact Array.extract_size
      rw [e1, Array.extract_size] at hp3
      simpa using hp3
    have hlen' : d'.toList.length = l.length := hperm.length_eq
    have hpw : d'.toList.Pairwise (fun a b => ¬ orderK b a < 0) := by
      rw [List.pairwise_iff_getElem]
      intro i j hi hj hij hlt
      have h9 := hso i j (Nat.zero_le _) hij (by simp at hj ⊢; omega)
      rw [getElem!_pos d' j (by simpa using hj), getElem!_pos d' i (by simpa using hi)] at h9
      exact of_decide_eq_false h9 (by simpa using hlt)
    have hfl : flatK eV 3 d' = (esV d'.toList).toArray := by
      rw [← flat_esV, Array.toArray_toList, Array.toArray_toList]
    generalize hd' : d'.toList = m at *
    refine ⟨_, _, ⟨rfl, m, hperm, hpw, rfl⟩, rfl, S, ⟨rfl, rfl, rfl, Nat.le_add_right _ _, by simp [sortWorldK, putRowK], fun k hk hS => ?_, fun k h => .inl h⟩, S, fun _ => False, fun _ h => h, fun _ h => h.elim, fun _ _ h => h, ?_, trivial⟩
    · rw [sortWorldK, heap_grow_old _ _ (by simpa [putRowK] using hk)]
      have : g ≠ k := fun e => hS (by rw [← e]; exact h2)
      simp [putRowK, putRow, mapBlock, Sort.ahead, Array.getElem?_modify, this]
    · refine ⟨by rw [esV_length, hlen'], .inr (.inl ⟨g, off, cap, putCells id off (esV m).toArray cur, rfl, h2, ?_, h4, h5, by simp [putCells, h6], ?_⟩)⟩
      · rw [sortWorldK, heap_grow_old _ _ (by simpa [putRowK] using hg), putRowK, hfl]
        simp [putRow, mapBlock, Sort.ahead, Array.getElem?_modify, h3, onCells]
      · have := putCells_id cur off (esV m) (by rw [esV_length, hlen', h6]; omega)
        rw [esV_length, hlen'] at this
        exact this
  · exact hnone h0 (some a0) h1
end Go.Proofs.YtpajjnkmaebhcaaGreat
end
section
set_option linter.unusedVariables false
namespace Go.Proofs.YtpajjnkmaebhcaaGreat
open Go Go.RowKit Go.Sl Fil
set_option maxRecDepth 100000
set_option maxHeartbeats 8000000
set_option linter.unusedVariables false
set_option linter.unusedSimpArgs false
attribute [local irreducible] Code.wp wpList bodyPost wpQuiet Exit.then Exit.inBlock Post wpAnyH wpOp
/-- what Make answers -/
structure MakeP (n : Int) (l : List E) (k : Int) (m : List E) : Prop where
  size : sizesK n l.length ≠ 0 → k = sizesK n l.length ∧ m = []
  alone : sizesK n l.length = 0 → ∀ (i : Nat) e, l[i]? = some e → aloneK n e.1 e.2.1 e.2.2 ≠ 0 → (∀ f ∈ l.take i, aloneK n f.1 f.2.1 f.2.2 = 0) → k = aloneK n e.1 e.2.1 e.2.2 ∧ m = []
  good : sizesK n l.length = 0 → (∀ e ∈ l, aloneK n e.1 e.2.1 e.2.2 = 0) → ∃ l' : List E, l'.Perm (l.map swapE) ∧ l'.Pairwise (fun a b => ¬ orderK b a < 0) ∧ ((k = 7 ∧ m = [] ∧ ∃ (i : Nat) (a b : E), l'[i]? = some a ∧ l'[i + 1]? = some b ∧ orderK a b = 0) ∨ (k = 0 ∧ m = l' ∧ ∀ (i : Nat) (a b : E), l'[i]? = some a → l'[i + 1]? = some b → orderK a b ≠ 0))
theorem CloneE_ok (v : Value) (l : List E) (w : World) (hs : Shp v l.length) (hr : RO w No v (esV l)) (hl : l.length ≤ 4194304) :
    Calls Tryz.prog 18 #[v] w (Post w No fun r L' => L' = [rowHP r 40 3 l.length (esV l)]) := by
  refine enter0 (vs := [_]) Tryz.func18 rfl Tryz.ntmps18 rfl ?_
  repeat' first
    | refine k_then ?_ | refine c_seq ?_ | refine c_region ?_ | refine s_nil ?_ | refine s_move (by exact rfl) (by exact rfl) ?_ | refine s_assign (by exact rfl) (by exact rfl) ?_ | fail
  refine s_eqnil (by exact rfl) (by exact rfl) hs ?_
  have hnn : (v = .slice none 0 0 ∧ l.length = 0) ∨ ∃ a0 m0 c0, v = .slice (some a0) m0 c0 := by
    rcases hs.2 with h | ⟨g, off, cap, h1, _⟩ | ⟨⟨a0, h1⟩, _⟩
    · exact .inl h
    · exact .inr ⟨_, _, _, h1⟩
    · exact .inr ⟨_, _, _, h1⟩
  rcases hnn with ⟨h1, h2⟩ | ⟨a0, m0, c0, h1⟩
  · rw [show nilB v = true by rw [h1]; rfl]
    obtain rfl : l = [] := List.eq_nil_of_length_eq_zero h2
    repeat' first
      | refine k_then ?_ | refine c_seq ?_ | refine c_region ?_ | refine s_nil ?_ | refine s_assign (by exact rfl) (by exact rfl) ?_ | refine c_ret ?_ | refine k_then_ret ?_ | refine c_cond_t (by exact rfl) ?_ | fail
    refine c_nil 40 3 ?_
    refine ret1 [0] rfl rfl rfl rfl
  · rw [show nilB v = false by rw [h1]; rfl]
    repeat' first
      | refine k_then ?_ | refine c_seq ?_ | refine c_region ?_ | refine s_nil ?_ | refine c_skip ?_ | refine c_cond_f (by exact rfl) ?_ | fail
    refine o_mk0 (by exact rfl) fun v0 hv0 => ?_
    repeat' first
      | refine s_move (by exact rfl) (by exact rfl) ?_ | fail
    refine o_append_ro (bytes := 24) (i := 0) (by exact rfl) (by exact rfl) (by exact rfl) (by exact rfl) hr hs (by rw [esV_length]) (esV_one _) (by omega) fun v1 hv1 => ?_
    repeat' first
      | refine k_then ?_ | refine s_nil ?_ | refine s_assign (by exact rfl) (by exact rfl) ?_ | refine c_ret ?_ | fail
    refine ret1 [0] rfl rfl rfl ?_
    rw [Nat.zero_add]; rfl
theorem esV_set2 {l : List E} {i : Nat} {e : E} (h : l[i]? = some e) (a b : Int) : ((esV l).set (i * 3 + 0) (.int .i64 a)).set (i * 3 + 1) (.int .i64 b) = esV (l.set i (a, b, e.2.2)) := by
  induction l generalizing i with
  | nil => simp at h
  | cons x l ih =>
    cases i with
    | zero =>
      obtain rfl : x = e := by simpa using h
      rfl
    | succ i =>
      have := ih (i := i) (by simpa using h)
      rw [show (i + 1) * 3 + 0 = (i * 3 + 0) + 3 by omega, show (i + 1) * 3 + 1 = (i * 3 + 1) + 3 by omega]
      show eV x ++ (((esV l).set (i * 3 + 0) (.int .i64 a)).set (i * 3 + 1) (.int .i64 b)) = eV x ++ esV (l.set i (a, b, e.2.2))
      rw [this]
theorem Make_ok (n : Int) (vl : Value) (l : List E) (w : World) (hs : Shp vl l.length) (hr : RO w No vl (esV l)) (hm : l.length < 4611686018427387904) :
    Calls Tryz.prog 21 #[.int .i64 n, vl] w (Post w No fun r L' => ∃ (vo : Value) (k : Int) (m : List E), r = .tuple #[.agg #[.int .i64 (if k = 0 then n else 0), vo], .int .i64 k] ∧ L' = [rowHP vo 40 3 m.length (esV m)] ∧ MakeP n l k m) := by
  refine enter0 (vs := [_, _]) Tryz.func21 rfl Tryz.ntmps21 rfl ?_
  repeat' first
    | refine k_then ?_ | refine c_seq ?_ | refine c_region ?_ | refine s_nil ?_ | refine s_move (by exact rfl) (by exact rfl) ?_ | refine s_assign (by exact rfl) (by exact rfl) ?_ | refine s_len (by exact rfl) (by exact rfl) (by assumption) ?_ | refine o_alloc (by exact rfl) (fun b => ?_) | fail
  revert b; intro b4
  refine s_call (by exact rfl) (by exact rfl) (fun w hs => sizes_ok _ _ w) ?_
  by_cases h0 : sizesK n l.length = 0
  case neg =>
    repeat' first
      | refine k_then ?_ | refine c_seq ?_ | refine c_region ?_ | refine s_nil ?_ | refine s_move (by exact rfl) (by exact rfl) ?_ | refine s_assign (by exact rfl) (by exact rfl) ?_ | refine s_neq (by exact rfl) (by exact rfl) (by exact rfl) ?_ | (refine c_cond_p (by exact rfl) (fun h => ?_) (fun h => ?_) <;> try (exfalso; omega)) | fail
    refine o_build (cs := [.int .i64 0, .slice none 0 0]) [] (by exact rfl) (by exact rfl) (by simp [Value.cells]) (by exact rfl) ?_
    repeat' first
      | refine s_move (by exact rfl) (by exact rfl) ?_ | fail
    refine o_stk_box (i := 0) (us := [.int .i64 0, .slice none 0 0]) (by exact rfl) (by exact rfl) (by exact rfl) (by exact rfl) (by exact rfl) (by simp [Value.oneCell']) (by simp [Value.cells]) ?_
    repeat' first
      | refine k_then ?_ | refine s_nil ?_ | refine s_assign (by exact rfl) (by exact rfl) ?_ | refine c_ret ?_ | refine k_then_ret ?_ | fail
    refine c_nil 40 3 ?_
    refine retL [.cell 4 24, .tmp 5] [.agg #[.int .i64 0, .slice none 0 0], .int .i64 (sizesK n l.length)] [0] rfl ⟨res_cellk (tb := 24) (cs := [.int .i64 0, .slice none 0 0]) (k := 2) (off := 0) (us := [.int .i64 0, .slice none 0 0]) rfl (.tail _ (.head _)) rfl (by simp [Value.cells, putL]), res_tmp rfl, trivial⟩ (by exact rfl) ⟨_, sizesK n l.length, [], by rw [if_neg h0]; rfl, rfl, fun _ => ⟨rfl, rfl⟩, fun h => absurd h h0, fun h => absurd h h0⟩
  have hll : l.length ≤ 4194304 := by
    unfold sizesK at h0
    split at h0
    · omega
    · split at h0 <;> omega
  repeat' first
    | refine k_then ?_ | refine c_seq ?_ | refine c_region ?_ | refine s_nil ?_ | refine s_move (by exact rfl) (by exact rfl) ?_ | refine s_assign (by exact rfl) (by exact rfl) ?_ | refine s_neq (by exact rfl) (by exact rfl) (by exact rfl) ?_ | refine c_skip ?_ | (refine c_cond_p (by exact rfl) (fun h => ?_) (fun h => ?_) <;> try (exfalso; omega)) | fail
  refine o_call (by exact rfl) (by exact rfl) (fun w h => CloneE_ok vl l w hs (ro_old h hr) hll) ?_
  rintro vo _ rfl
  refine know_row (v := vo) (.head _) fun hvo _ => ?_
  repeat' first
    | refine k_then ?_ | refine c_seq ?_ | refine c_region ?_ | refine s_nil ?_ | refine s_move (by exact rfl) (by exact rfl) ?_ | refine s_assign (by exact rfl) (by exact rfl) ?_ | refine s_len (by exact rfl) (by exact rfl) (by assumption) ?_ | refine c_block ?_ | fail
  refine c_loop (fun k : Nat => k ≤ l.length ∧ ∀ f ∈ l.take k, aloneK n f.1 f.2.1 f.2.2 = 0) (fun k => [(0, .int .i64 n), (4, .pointer (some ⟨b4, 0, none⟩)), (5, .int .i64 0), (7, vo), (22, vo), (23, .int .i64 (l.length : Int)), (24, .int .i64 (k : Int))])
    (fun k => [rowHP vo 40 3 l.length (esV ((l.take k).map swapE ++ l.drop k)), boxHP b4 24 [.int .i64 0, .slice none 0 0]]) (fun k => l.length - k) 0 [0, 0] ⟨Nat.zero_le _, by simp⟩ (by exact rfl) ⟨rfl, rfl, rfl, rfl, rfl, rfl, rfl, trivial⟩ ?_
  rintro k ⟨hk, hal⟩
  by_cases hlt : k < l.length
  · obtain ⟨e, he⟩ : ∃ e, l[k]? = some e := ⟨_, List.getElem?_eq_getElem hlt⟩
    have hdk : l.drop k = e :: l.drop (k + 1) := by
      have h3 : l[k] = e := (List.getElem?_eq_some_iff.1 he).2
      rw [List.drop_eq_getElem_cons hlt, h3]
    have htk : l.take (k + 1) = l.take k ++ [e] := by rw [List.take_add_one, he]; rfl
    have hat : ((l.take k).map swapE ++ l.drop k)[k]? = some e := by
      rw [List.getElem?_append_right (by simp; omega), hdk]
      simp [show k - min k l.length = 0 by omega]
    have hE := esV_at hat
    repeat' first
      | refine k_then ?_ | refine c_seq ?_ | refine c_region ?_ | refine s_nil ?_ | refine s_move (by exact rfl) (by exact rfl) ?_ | refine s_assign (by exact rfl) (by exact rfl) ?_ | refine s_lss (by exact rfl) (by exact rfl) (by exact rfl) ?_ | refine s_idx (by exact rfl) (by exact rfl) (by exact rfl) (by assumption) (by first | assumption | omega) ?_ | refine s_ldk_row (by exact rfl) (by exact rfl) (by exact .head _) (by decide) (by assumption) (by exact rfl) ?_ | refine o_alloc (by exact rfl) (fun b => ?_) | refine c_block ?_ | refine c_skip ?_ | (refine c_cond_p (by exact rfl) (fun h => ?_) (fun h => ?_) <;> try (exfalso; omega)) | fail
    refine o_stk_box (i := 0) (us := eV e) (by exact rfl) (by exact rfl) (by exact rfl) (by exact rfl) (by exact rfl) (by simp [eV, Value.oneCell']) (by simp [Value.cells]) ?_
    repeat' first
      | refine k_then ?_ | refine c_seq ?_ | refine c_region ?_ | refine s_nil ?_ | refine s_move (by exact rfl) (by exact rfl) ?_ | refine s_ldk_box (by exact rfl) (by exact rfl) (by exact .head _) (by exact rfl) (by exact rfl) ?_ | fail
    refine s_call (by exact rfl) (by exact rfl) (fun w hs => alone_ok n e w) ?_
    by_cases ha : aloneK n e.1 e.2.1 e.2.2 = 0
    case neg =>
      repeat' first
        | refine k_then ?_ | refine c_seq ?_ | refine c_region ?_ | refine s_nil ?_ | refine s_move (by exact rfl) (by exact rfl) ?_ | refine s_assign (by exact rfl) (by exact rfl) ?_ | refine s_neq (by exact rfl) (by exact rfl) (by exact rfl) ?_ | (refine c_cond_p (by exact rfl) (fun h => ?_) (fun h => ?_) <;> try (exfalso; omega)) | fail
      refine o_build (cs := [.int .i64 0, .slice none 0 0]) [] (by exact rfl) (by exact rfl) (by simp [Value.cells]) (by exact rfl) ?_
      repeat' first
        | refine s_move (by exact rfl) (by exact rfl) ?_ | fail
      refine o_stk_box (i := 2) (us := [.int .i64 0, .slice none 0 0]) (by exact rfl) (by exact rfl) (by exact rfl) (by exact rfl) (by exact rfl) (by simp [Value.oneCell']) (by simp [Value.cells]) ?_
      repeat' first
        | refine k_then ?_ | refine s_nil ?_ | refine s_assign (by exact rfl) (by exact rfl) ?_ | refine c_ret ?_ | refine k_then_ret ?_ | refine k_blk_ret ?_ | fail
      refine c_nil 40 3 ?_
      refine retL [.cell 4 24, .tmp 5] [.agg #[.int .i64 0, .slice none 0 0], .int .i64 (aloneK n e.1 e.2.1 e.2.2)] [0] rfl ⟨res_cellk (tb := 24) (cs := [.int .i64 0, .slice none 0 0]) (k := 2) (off := 0) (us := [.int .i64 0, .slice none 0 0]) rfl (.tail _ (.tail _ (.tail _ (.head _)))) rfl (by simp [putL]), res_tmp rfl, trivial⟩ (by exact rfl) ⟨_, aloneK n e.1 e.2.1 e.2.2, [], by rw [if_neg ha]; rfl, rfl, fun h => absurd h0 h, fun _ i f hf1 hf2 hf3 => ?_, fun _ h => absurd (h e (List.mem_of_getElem? he)) ha⟩
      have : i = k := by
        rcases Nat.lt_trichotomy i k with h | h | h
        · exact absurd (hal f (List.mem_take_iff_getElem.2 ⟨i, by have := (List.getElem?_eq_some_iff.1 hf1).1; omega, (List.getElem?_eq_some_iff.1 hf1).2⟩)) hf2
        · exact h
        · exact absurd (hf3 e (List.mem_take_iff_getElem.2 ⟨k, by omega, (List.getElem?_eq_some_iff.1 he).2⟩)) ha
      subst this
      rw [he] at hf1
      obtain rfl := Option.some.inj hf1
      exact ⟨rfl, rfl⟩
    rw [ha]
    have hsw : swapE e = (min e.1 e.2.1, max e.1 e.2.1, e.2.2) := by
      unfold swapE
      split
      · rw [Int.min_eq_right (by omega), Int.max_eq_left (by omega)]
      · rw [Int.min_eq_left (by omega), Int.max_eq_right (by omega)]
    have hset := esV_set2 hat (min e.1 e.2.1) (max e.1 e.2.1)
    have hnx : ((l.take k).map swapE ++ l.drop k).set k (min e.1 e.2.1, max e.1 e.2.1, e.2.2) = (l.take (k + 1)).map swapE ++ l.drop (k + 1) := by
      rw [← hsw, htk, hdk, List.set_append_right _ _ (by simp; omega)]
      simp [show k - min k l.length = 0 by omega]
    repeat' first
      | refine k_then ?_ | refine c_seq ?_ | refine c_region ?_ | refine s_nil ?_ | refine s_move (by exact rfl) (by exact rfl) ?_ | refine s_assign (by exact rfl) (by exact rfl) ?_ | refine s_neq (by exact rfl) (by exact rfl) (by exact rfl) ?_ | refine c_skip ?_ | (refine c_cond_p (by exact rfl) (fun h => ?_) (fun h => ?_) <;> try (exfalso; omega)) | fail
    refine c_pick [1, 0, 0] (by exact rfl) ?_
    refine p_begin [(0, true), (1, true), (2, true), (3, true), (4, true), (5, true), (6, true), (7, true), (8, true), (9, true), (10, true), (11, true), (12, true), (13, true), (14, true), (15, true), (16, false), (17, true), (18, true), (19, false)] [boxHP b 40 (eV e), boxHP b4 24 [.int .i64 0, .slice none 0 0]] (by kernel_rfl) ?_
    repeat' first
      | (refine p_at (by exact rfl) ?_
         first
          | refine t_move (by exact rfl) (by exact rfl) (by exact fun _ h => h.tl) ?_ | refine t_fa (by exact rfl) (by exact rfl) (by exact fun _ h => h.tl) ?_ | refine t_ld_box (by exact rfl) (by exact rfl) (by exact .head _) (by exact rfl) (by exact fun _ h => h.tl) ?_ | refine t_min (by exact rfl) (by exact rfl) (by exact rfl) (by exact fun _ h => h.tl) ?_ | refine t_max (by exact rfl) (by exact rfl) (by exact rfl) (by exact fun _ h => h.tl) ?_ | refine t_idx (by exact rfl) (by exact rfl) (by exact rfl) (by assumption) (by first | assumption | omega) (by exact fun _ h => h.tl) ?_ | refine t_fap (by exact rfl) (by exact rfl) (by assumption) (by omega) (by exact fun _ h => h.tl) ?_ | fail)
      | fail
    refine p_st_row (j := 0) (by exact rfl) (by exact rfl) (by exact rfl) (by exact rfl) rfl (by omega) (fun _ h => h.tl) ?_
    repeat' first
      | (refine p_at (by exact rfl) ?_
         first
          | refine t_idx (by exact rfl) (by exact rfl) (by exact rfl) (by assumption) (by first | assumption | omega) (by exact fun _ h => h.tl) ?_ | refine t_fap (by exact rfl) (by exact rfl) (by assumption) (by omega) (by exact fun _ h => h.tl) ?_ | fail)
      | fail
    refine p_st_row (j := 0) (by exact rfl) (by exact rfl) (by exact rfl) (by exact rfl) rfl (by omega) (fun _ h => h.tl) ?_
    repeat' first
      | refine p_nil ?_ | fail
    repeat' first
      | refine k_then ?_ | refine c_region ?_ | refine s_nil ?_ | refine s_move (by exact rfl) (by exact rfl) ?_ | refine s_add (by exact rfl) (by exact rfl) (by exact rfl) (by omega) ?_ | refine k_blk ?_ | fail
    refine c_round (k + 1) [0, 1] (by rw [← hnx, ← hset]; exact rfl) ⟨rfl, rfl, rfl, rfl, rfl, rfl, rfl, trivial⟩ ⟨by omega, fun f hf => ?_⟩ (by omega)
    rw [htk] at hf
    rcases List.mem_append.1 hf with hf | hf
    · exact hal f hf
    · obtain rfl : f = e := by simpa using hf
      exact ha
  obtain rfl : k = l.length := by omega
  rw [List.take_length, List.drop_length, List.append_nil] at *
  have hml : (l.map swapE).length = l.length := List.length_map ..
  repeat' first
    | refine k_then ?_ | refine c_seq ?_ | refine c_region ?_ | refine s_nil ?_ | refine s_move (by exact rfl) (by exact rfl) ?_ | refine s_lss (by exact rfl) (by exact rfl) (by exact rfl) ?_ | refine c_exit ?_ | refine k_then_exit ?_ | refine k_blk_eq ?_ | (refine c_cond_p (by exact rfl) (fun h => ?_) (fun h => ?_) <;> try (exfalso; omega)) | fail
  rw [← hml]
  refine s_lend [rowHP vo 40 3 (l.map swapE).length (esV (l.map swapE))] _ (by exact rfl) (by exact rfl) (by exact rfl) (fun w S h => edgeSort_row (sats_mem h.own (.head _)) (by omega)) ?_
  rintro _ _ ⟨rfl, l', hperm, hpw, rfl⟩
  have hl' : l'.length = l.length := by rw [hperm.length_eq, hml]
  rw [hml]
  repeat' first
    | refine k_then ?_ | refine c_seq ?_ | refine c_region ?_ | refine s_nil ?_ | refine s_move (by exact rfl) (by exact rfl) ?_ | refine s_len (by exact rfl) (by exact rfl) (by assumption) ?_ | refine c_block ?_ | fail
  refine c_loop (fun k : Nat => k ≤ l.length ∧ ∀ (i : Nat) (a b : E), i + 1 < k → l'[i]? = some a → l'[i + 1]? = some b → orderK a b ≠ 0) (fun k => [(0, .int .i64 n), (4, .pointer (some ⟨b4, 0, none⟩)), (5, .int .i64 0), (7, vo), (58, .int .i64 (l.length : Int)), (59, .int .i64 (k : Int))])
    (fun k => [rowHP vo 40 3 l.length (esV l'), boxHP b4 24 [.int .i64 0, .slice none 0 0]]) (fun k => l.length - k) 0 [0, 0] ⟨Nat.zero_le _, fun i a b h => by omega⟩ (by exact rfl) ⟨rfl, rfl, rfl, rfl, rfl, rfl, trivial⟩ ?_
  rintro k ⟨hk2, hq⟩
  by_cases hlt2 : k < l.length
  · obtain ⟨e, he⟩ : ∃ e, l'[k]? = some e := ⟨_, List.getElem?_eq_getElem (by omega)⟩
    have hE := esV_at he
    by_cases hk0 : k = 0
    · subst hk0
      repeat' first
        | refine k_then ?_ | refine c_seq ?_ | refine c_region ?_ | refine s_nil ?_ | refine s_move (by exact rfl) (by exact rfl) ?_ | refine s_assign (by exact rfl) (by exact rfl) ?_ | refine s_lss (by exact rfl) (by exact rfl) (by exact rfl) ?_ | refine c_block ?_ | refine c_skip ?_ | (refine c_cond_p (by exact rfl) (fun h => ?_) (fun h => ?_) <;> try (exfalso; omega)) | fail
      refine p_begin0 [(0, true), (1, true), (2, true), (3, true), (4, true), (5, true), (6, true), (7, true), (8, true), (9, true), (10, true), (11, true), (12, false), (13, true), (14, true)] (by kernel_rfl) ?_
      repeat' first
        | refine p_nil ?_
        | (refine p_at (by exact rfl) ?_
           first
            | refine t_move (by exact rfl) (by exact rfl) (by exact fun _ h => h) ?_ | refine t_gtr (by exact rfl) (by exact rfl) (by exact rfl) (by exact fun _ h => h) ?_ | refine t_pick_f (by exact rfl) (by exact rfl) (by exact rfl) (by exact fun _ h => h) ?_ | (refine t_case (by exact rfl) (by exact rfl) (fun h => ?_) (fun h => ?_) <;> try (exfalso; omega)) | refine t_skip (by exact rfl) (by exact rfl) (by exact rfl) (by exact rfl) (by exact fun _ h => h) ?_ | refine t_skipl (by exact rfl) (by exact rfl) (by exact rfl) (by exact rfl) (by exact fun _ h => h) ?_ | fail)
        | fail
      repeat' first
        | refine k_then ?_ | refine c_region ?_ | refine s_nil ?_ | refine s_move (by exact rfl) (by exact rfl) ?_ | refine s_add (by exact rfl) (by exact rfl) (by exact rfl) (by omega) ?_ | refine c_skip ?_ | refine k_blk ?_ | refine c_cond_f (by exact rfl) ?_ | fail
      refine c_round 1 [0, 0] (by exact rfl) ⟨rfl, rfl, rfl, rfl, rfl, rfl, trivial⟩ ⟨by omega, fun i a b h => by omega⟩ (by omega)
    · obtain ⟨q, hqq⟩ : ∃ q, l'[k - 1]? = some q := ⟨_, List.getElem?_eq_getElem (by omega)⟩
      have hQ : ((esV l').drop (((k : Int) - 1).toNat * 3)).take 3 = eV q := by
        rw [show ((k : Int) - 1).toNat = k - 1 from by omega]
        exact esV_at hqq
      repeat' first
        | refine k_then ?_ | refine c_seq ?_ | refine c_region ?_ | refine s_nil ?_ | refine s_move (by exact rfl) (by exact rfl) ?_ | refine s_assign (by exact rfl) (by exact rfl) ?_ | refine s_lss (by exact rfl) (by exact rfl) (by exact rfl) ?_ | refine c_block ?_ | refine c_skip ?_ | (refine c_cond_p (by exact rfl) (fun h => ?_) (fun h => ?_) <;> try (exfalso; omega)) | fail
      refine p_begin0 [(0, true), (1, true), (2, true), (3, true), (4, true), (5, true), (6, true), (7, true), (8, true), (9, true), (10, true), (11, true), (12, false), (13, true), (14, true)] (by kernel_rfl) ?_
      repeat' first
        | (refine p_at (by exact rfl) ?_
           first
            | refine t_move (by exact rfl) (by exact rfl) (by exact fun _ h => h) ?_ | refine t_gtr (by exact rfl) (by exact rfl) (by exact rfl) (by exact fun _ h => h) ?_ | refine tw_move (by exact rfl) (by exact rfl) (by exact rfl) (by exact rfl) (by exact fun _ h => h) ?_ | refine tw_sub (by exact rfl) (by exact rfl) (by exact rfl) (by exact rfl) (by exact rfl) (by omega) (by exact fun _ h => h) ?_ | refine tw_idx (by exact rfl) (by exact rfl) (by exact rfl) (by exact rfl) (by exact rfl) (by assumption) (by first | assumption | omega) (by exact fun _ h => h) ?_ | refine tw_idxi (by exact rfl) (by exact rfl) (by exact rfl) (by exact rfl) (by exact rfl) (by assumption) (by first | assumption | omega) (by exact fun _ h => h) ?_ | refine tw_ldk_row (by exact rfl) (by exact rfl) (by exact rfl) (by exact rfl) (by exact .head _) (by decide) (by assumption) (by exact rfl) (by exact fun _ h => h) ?_ | (refine t_case (by exact rfl) (by exact rfl) (fun h => ?_) (fun h => ?_) <;> try (exfalso; omega)) | fail)
        | fail
      refine p_callw (by exact rfl) (by exact rfl) (by exact rfl) rfl (by exact rfl) (fun w h => order_ok q e w) (by exact fun _ h => h) ?_
      repeat' first
        | refine p_nil ?_
        | (refine p_at (by exact rfl) ?_
           first
            | refine t_pick_t (by exact rfl) (by exact rfl) (by exact rfl) (by exact fun _ h => h) ?_ | refine tw_eql (by exact rfl) (by exact rfl) (by exact rfl) (by exact rfl) (by exact rfl) (by exact fun _ h => h) ?_ | fail)
        | fail
      repeat' first
        | refine k_then ?_ | refine c_seq ?_ | refine c_region ?_ | refine s_nil ?_ | refine s_move (by exact rfl) (by exact rfl) ?_ | refine s_add (by exact rfl) (by exact rfl) (by exact rfl) (by omega) ?_ | refine c_skip ?_ | refine k_blk ?_ | (refine c_cond_p (by exact rfl) (fun h => ?_) (fun h => ?_) <;> try (exfalso; omega)) | fail
      · refine o_build (cs := [.int .i64 0, .slice none 0 0]) [] (by exact rfl) (by exact rfl) (by simp [Value.cells]) (by exact rfl) ?_
        skip
        refine o_stk_box (i := 1) (us := [.int .i64 0, .slice none 0 0]) (by exact rfl) (by exact rfl) (by exact rfl) (by exact rfl) (by exact rfl) (by simp [Value.oneCell']) (by simp [Value.cells]) ?_
        repeat' first
          | refine k_then ?_ | refine s_nil ?_ | refine s_assign (by exact rfl) (by exact rfl) ?_ | refine c_ret ?_ | refine k_then_ret ?_ | refine k_blk_ret ?_ | fail
        refine c_nil 40 3 ?_
        refine retL [.cell 4 24, .tmp 5] [.agg #[.int .i64 0, .slice none 0 0], .int .i64 7] [0] rfl ⟨res_cellk (tb := 24) (cs := [.int .i64 0, .slice none 0 0]) (k := 2) (off := 0) (us := [.int .i64 0, .slice none 0 0]) rfl (.tail _ (.tail _ (.head _))) rfl (by simp [putL]), res_tmp rfl, trivial⟩ (by exact rfl) ⟨_, 7, [], rfl, rfl, fun h => absurd h0 h, fun _ i f hf1 hf2 hf3 => absurd (hal f (List.mem_of_getElem? hf1)) hf2, fun _ _ => ⟨l', hperm, hpw, .inl ⟨rfl, rfl, k - 1, q, e, hqq, by rw [show k - 1 + 1 = k by omega]; exact he, h⟩⟩⟩
      · refine c_round (k + 1) [0, 0] (by exact rfl) ⟨rfl, rfl, rfl, rfl, rfl, rfl, trivial⟩ ⟨by omega, fun i a b hi ha hb => ?_⟩ (by omega)
        by_cases hik : i + 1 < k
        · exact hq i a b hik ha hb
        · obtain rfl : i = k - 1 := by omega
          rw [show k - 1 + 1 = k by omega] at hb
          rw [hqq] at ha
          rw [he] at hb
          obtain rfl := Option.some.inj ha
          obtain rfl := Option.some.inj hb
          exact h
  · refine know_row (v := vo) (.head _) fun hvo2 _ => ?_
    repeat' first
      | refine k_then ?_ | refine c_seq ?_ | refine c_region ?_ | refine s_nil ?_ | refine s_move (by exact rfl) (by exact rfl) ?_ | refine s_lss (by exact rfl) (by exact rfl) (by exact rfl) ?_ | refine c_exit ?_ | refine k_then_exit ?_ | refine k_blk_eq ?_ | (refine c_cond_p (by exact rfl) (fun h => ?_) (fun h => ?_) <;> try (exfalso; omega)) | fail
    refine o_build (cs := [.int .i64 n, vo]) [(0, .int .i64 n, [.int .i64 n]), (1, vo, [vo])] (by exact rfl) (by exact rfl) (by
      intro x hx
      simp only [List.mem_cons, List.not_mem_nil, or_false] at hx
      rcases hx with rfl | rfl
      · rfl
      · exact one_cells hvo.one) (by exact rfl) ?_
    skip
    refine o_stk_box (i := 1) (us := [.int .i64 n, vo]) (by exact rfl) (by exact rfl) (by exact rfl) (by exact rfl) (by exact rfl) (by
      intro u hu
      simp only [List.mem_cons, List.not_mem_nil, or_false] at hu
      rcases hu with rfl | rfl
      · rfl
      · exact hvo.one) (by simp [Value.cells]) ?_
    repeat' first
      | refine k_then ?_ | refine s_nil ?_ | refine s_assign (by exact rfl) (by exact rfl) ?_ | refine c_ret ?_ | fail
    refine retL [.cell 4 24, .tmp 5] [.agg #[.int .i64 n, vo], .int .i64 0] [0] rfl ⟨res_cellk (tb := 24) (cs := [.int .i64 n, vo]) (k := 2) (off := 0) (us := [.int .i64 n, vo]) rfl (.tail _ (.head _)) rfl rfl, res_tmp rfl, trivial⟩ (by exact rfl) ⟨vo, 0, l', rfl, by rw [hl'], fun h => absurd h0 h, fun _ i f hf1 hf2 hf3 => absurd (hal f (List.mem_of_getElem? hf1)) hf2, fun _ _ => ⟨l', hperm, hpw, .inr ⟨rfl, rfl, fun i a b ha hb => hq i a b (by have := (List.getElem?_eq_some_iff.1 hb).1; omega) ha hb⟩⟩⟩
end Go.Proofs.YtpajjnkmaebhcaaGreat
end
section
set_option linter.unusedVariables false
namespace Fil
def endsNe (a b : E) : Prop := ¬ (a.1 = b.1 ∧ a.2.1 = b.2.1)
theorem ltE_ne {a b : E} (h : ltE a b) : endsNe a b := by unfold ltE at h; unfold endsNe; omega
theorem endsNe_symm {a b : E} (h : endsNe a b) : endsNe b a := fun h2 => h ⟨h2.1.symm, h2.2.symm⟩
theorem belowB_iff {a b : E} : belowB a b = true ↔ ltE a b := by simp [belowB, ltE]
theorem posE_spec (g : List E) (e : E) : ∀ k, k ≤ g.length → (∀ j x, posE g e k ≤ j → j < k → g[j]? = some x → ltE e x) ∧ (∀ x, 0 < posE g e k → g[posE g e k - 1]? = some x → ¬ ltE e x)
  | 0, _ => ⟨fun j x _ h => by omega, fun x h => by simp [posE] at h⟩
  | k + 1, hk => by
    obtain ⟨h1, h2⟩ := posE_spec g e k (by omega)
    have hg : g[k]? = some (g.getD k (0, 0, 0)) := by rw [List.getD_eq_getElem?_getD, List.getElem?_eq_getElem (by omega)]; rfl
    rw [posE]
    split
    · rename_i hb
      refine ⟨fun j x hj hjk hx => ?_, h2⟩
      by_cases hjk2 : j = k
      · subst hjk2
        rw [hg] at hx
        rw [← Option.some.inj hx]
        exact belowB_iff.1 hb
      · exact h1 j x hj (by omega) hx
    · rename_i hb
      refine ⟨fun j x hj hjk => by omega, fun x _ hx => ?_⟩
      rw [Nat.add_sub_cancel, hg] at hx
      rw [← Option.some.inj hx]
      exact fun h => hb (belowB_iff.2 h)
theorem insE_perm (g : List E) (e : E) : (insE g e).Perm (g ++ [e]) := by
  rw [insE, List.append_assoc]
  have h : ([e] ++ g.drop (posE g e g.length)).Perm (g.drop (posE g e g.length) ++ [e]) := List.perm_append_comm
  refine (h.append_left _).trans ?_
  rw [← List.append_assoc, List.take_append_drop]
theorem ins_sorted {g : List E} {e : E} (hg : g.Pairwise ltE) : (twE g e = false → (insE g e).Pairwise ltE ∧ ∀ f ∈ g, endsNe f e) ∧ (twE g e = true → ∃ f ∈ g, ¬ endsNe f e) := by
  have hle := posE_le g e g.length
  obtain ⟨h1, h2⟩ := posE_spec g e g.length (Nat.le_refl _)
  generalize hp : posE g e g.length = p at *
  have hlast : 0 < p → g[p - 1]? = some (g.getD (p - 1) (0, 0, 0)) := fun h => by rw [List.getD_eq_getElem?_getD, List.getElem?_eq_getElem (by omega)]; rfl
  constructor
  · intro ht
    have hlow : ∀ f ∈ g.take p, ltE f e := by
      by_cases h0 : p = 0
      · subst h0; simp
      · have hb : ltE (g.getD (p - 1) (0, 0, 0)) e := by
          rw [twE, hp] at ht
          rw [← belowB_iff]
          cases hbb : belowB (g.getD (p - 1) (0, 0, 0)) e
          · rw [hbb] at ht; simp at ht; omega
          · rfl
        intro f hf
        obtain ⟨j, hj⟩ := List.getElem?_of_mem hf
        rw [List.getElem?_take] at hj
        split at hj
        · rename_i hjp
          by_cases hjl : j = p - 1
          · subst hjl
            rw [hlast (by omega)] at hj
            rw [← Option.some.inj hj]; exact hb
          · obtain ⟨q1, q2⟩ := List.getElem?_eq_some_iff.1 hj
            obtain ⟨q3, q4⟩ := List.getElem?_eq_some_iff.1 (hlast (by omega))
            have := List.pairwise_iff_getElem.1 hg j (p - 1) q1 q3 (by omega)
            rw [q2, q4] at this
            exact ltE_trans this hb
        · simp at hj
    have hhigh : ∀ f ∈ g.drop p, ltE e f := by
      intro f hf
      obtain ⟨j, hj⟩ := List.getElem?_of_mem hf
      rw [List.getElem?_drop] at hj
      exact h1 (p + j) f (by omega) (List.getElem?_eq_some_iff.1 hj).1 hj
    refine ⟨?_, fun f hf => ?_⟩
    · rw [insE, hp, List.append_assoc, List.pairwise_append]
      refine ⟨hg.sublist (List.take_sublist _ _), ?_, fun a ha b hb => ?_⟩
      · rw [List.singleton_append, List.pairwise_cons]
        exact ⟨hhigh, hg.sublist (List.drop_sublist _ _)⟩
      · rcases List.mem_append.1 hb with hb | hb
        · obtain rfl : b = e := by simpa using hb
          exact hlow a ha
        · exact ltE_trans (hlow a ha) (hhigh b hb)
    · rw [← List.take_append_drop p g] at hf
      rcases List.mem_append.1 hf with hf | hf
      · exact ltE_ne (hlow f hf)
      · exact endsNe_symm (ltE_ne (hhigh f hf))
  · intro ht
    rw [twE, hp, Bool.and_eq_true, decide_eq_true_eq, Bool.not_eq_true'] at ht
    obtain ⟨t1, t2⟩ := ht
    refine ⟨_, List.mem_of_getElem? (hlast t1), fun hne => ?_⟩
    have a1 := h2 _ t1 (hlast t1)
    have a2 : ¬ ltE (g.getD (p - 1) (0, 0, 0)) e := fun h => by rw [belowB_iff.2 h] at t2; cases t2
    unfold ltE at a1 a2
    unfold endsNe at hne
    omega
theorem makeF_tw {n : Int} : ∀ (l g : List E), (∀ e ∈ l, aloneK n e.1 e.2.1 e.2.2 = 0) → makeF n l g true = (7, [])
  | [], g, _ => rfl
  | e :: l, g, h => by
    rw [makeF, if_pos (h e (.head _)), Bool.true_or]
    exact makeF_tw l _ fun f hf => h f (.tail _ hf)
theorem makeF_all {n : Int} : ∀ (l g : List E), (∀ e ∈ l, aloneK n e.1 e.2.1 e.2.2 = 0) → g.Pairwise ltE →
    ((g ++ l.map swapE).Pairwise endsNe → ∃ m, makeF n l g false = (0, m) ∧ m.Pairwise ltE ∧ m.Perm (g ++ l.map swapE)) ∧ (¬ (g ++ l.map swapE).Pairwise endsNe → makeF n l g false = (7, []))
  | [], g, _, hg => ⟨fun _ => ⟨g, rfl, hg, by simp⟩, fun h => absurd (by simpa using hg.imp ltE_ne) h⟩
  | e :: l, g, h, hg => by
    obtain ⟨s1, s2⟩ := ins_sorted (e := swapE e) hg
    have hal := h e (.head _)
    have htl : ∀ f ∈ l, aloneK n f.1 f.2.1 f.2.2 = 0 := fun f hf => h f (.tail _ hf)
    have hperm : (insE g (swapE e) ++ l.map swapE).Perm (g ++ (e :: l).map swapE) := by
      rw [List.map_cons, show g ++ swapE e :: l.map swapE = (g ++ [swapE e]) ++ l.map swapE by simp]
      exact (insE_perm g (swapE e)).append_right _
    rw [makeF, if_pos hal, Bool.false_or]
    cases ht : twE g (swapE e)
    · obtain ⟨i1, i2⟩ := makeF_all l (insE g (swapE e)) htl (s1 ht).1
      refine ⟨fun hp => ?_, fun hp => i2 fun h2 => hp ?_⟩
      · obtain ⟨m, m1, m2, m3⟩ := i1 ((List.Perm.pairwise_iff (fun h => endsNe_symm h) hperm).2 hp)
        exact ⟨m, m1, m2, m3.trans hperm⟩
      · exact (List.Perm.pairwise_iff (fun h => endsNe_symm h) hperm).1 h2
    · refine ⟨fun hp => ?_, fun _ => makeF_tw l _ htl⟩
      exfalso
      obtain ⟨f, hf, hne⟩ := s2 ht
      rw [List.map_cons] at hp
      exact hne ((List.pairwise_append.1 hp).2.2 f hf (swapE e) (.head _))
theorem makeF_first {n : Int} : ∀ (l g : List E) (tw : Bool) (i : Nat) (e : E), l[i]? = some e → aloneK n e.1 e.2.1 e.2.2 ≠ 0 → (∀ f ∈ l.take i, aloneK n f.1 f.2.1 f.2.2 = 0) → makeF n l g tw = (aloneK n e.1 e.2.1 e.2.2, [])
  | [], g, tw, i, e, h, _, _ => by simp at h
  | a :: l, g, tw, 0, e, h, h2, _ => by
    obtain rfl : a = e := by simpa using h
    rw [makeF, if_neg h2]
  | a :: l, g, tw, i + 1, e, h, h2, h3 => by
    rw [makeF, if_pos (h3 a (by simp))]
    exact makeF_first l _ _ i e (by simpa using h) h2 fun f hf => h3 f (by simp [hf])
theorem ltE_asymm {a b : E} (h : ltE a b) : ¬ ltE b a := by unfold ltE at *; omega
theorem sorted_one : ∀ {a b : List E}, a.Pairwise ltE → b.Pairwise ltE → a.Perm b → a = b
  | [], b, _, _, h => (List.Perm.nil_eq h)
  | x :: a, [], _, _, h => by have := h.length_eq; simp at this
  | x :: a, y :: b, ha, hb, h => by
    rw [List.pairwise_cons] at ha hb
    have hxy : x = y := by
      rcases List.mem_cons.1 (h.mem_iff.1 (.head _)) with h1 | h1
      · exact h1
      · rcases List.mem_cons.1 (h.mem_iff.2 (.head b)) with h2 | h2
        · exact h2.symm
        · exact absurd (ha.1 y h2) (ltE_asymm (hb.1 x h1))
    subst hxy
    rw [sorted_one ha.2 hb.2 (h.cons_inv)]
theorem first_bad {α : Type} {P : α → Prop} : ∀ {l : List α}, (∀ x ∈ l, P x) ∨ ∃ (i : Nat) (e : α), l[i]? = some e ∧ ¬ P e ∧ ∀ f ∈ l.take i, P f
  | [] => .inl (by simp)
  | a :: l => by
    by_cases ha : P a
    · rcases first_bad (P := P) (l := l) with h | ⟨i, e, h1, h2, h3⟩
      · exact .inl fun x hx => (List.mem_cons.1 hx).elim (fun h2 => h2 ▸ ha) (h x)
      · exact .inr ⟨i + 1, e, by simpa using h1, h2, fun f hf => by
          rw [List.take_succ_cons] at hf
          exact (List.mem_cons.1 hf).elim (fun h2 => h2 ▸ ha) (h3 f)⟩
    · exact .inr ⟨0, a, rfl, ha, by simp⟩
theorem adj_strict {l : List E} (h : l.Pairwise fun a b => ¬ orderK b a < 0) (hq : ∀ (i : Nat) (a b : E), l[i]? = some a → l[i + 1]? = some b → orderK a b ≠ 0) : l.Pairwise ltE := by
  have hadj : ∀ (i : Nat) (a b : E), l[i]? = some a → l[i + 1]? = some b → ltE a b := fun i a b ha hb => by
    obtain ⟨i1, rfl⟩ := List.getElem?_eq_some_iff.1 ha
    obtain ⟨i2, rfl⟩ := List.getElem?_eq_some_iff.1 hb
    have h1 := List.pairwise_iff_getElem.1 h i (i + 1) i1 i2 (by omega)
    have h2 := hq i _ _ ha hb
    revert h1 h2
    generalize l[i] = a
    generalize l[i + 1] = b
    intro h1 h2
    unfold orderK cmpK at h1 h2
    unfold ltE
    split at h1 <;> split at h2 <;> (repeat' split at h1) <;> (repeat' split at h2) <;> omega
  rw [List.pairwise_iff_getElem]
  intro i j hi hj hij
  induction j with
  | zero => omega
  | succ j ih =>
    have h1 := hadj j l[j] l[j + 1] (List.getElem?_eq_getElem (by omega)) (List.getElem?_eq_getElem hj)
    by_cases h2 : i = j
    · subst h2; exact h1
    · exact ltE_trans (ih (by omega) (by omega)) h1
theorem order_ends {a b : E} (h : orderK a b = 0) : ¬ endsNe a b := by
  unfold orderK cmpK at h
  unfold endsNe
  split at h <;> (repeat' split at h) <;> omega
end Fil
namespace Go.Proofs.YtpajjnkmaebhcaaGreat
open Fil
theorem MakeP.eq {n : Int} {l : List E} {k : Int} {m : List E} (h : MakeP n l k m) : makeR n l = (k, m) := by
  rw [makeR]
  by_cases h0 : sizesK n l.length = 0
  · rw [if_pos h0]
    rcases first_bad (P := fun e : E => aloneK n e.1 e.2.1 e.2.2 = 0) (l := l) with hal | ⟨i, e, h1, h2, h3⟩
    · obtain ⟨f1, f2⟩ := makeF_all l [] hal .nil
      rw [List.nil_append] at f1 f2
      obtain ⟨l', p1, p2, p3⟩ := h.good h0 hal
      by_cases hp : (l.map swapE).Pairwise endsNe
      · obtain ⟨m', m1, m2, m3⟩ := f1 hp
        have hp' : l'.Pairwise endsNe := (List.Perm.pairwise_iff (fun h => endsNe_symm h) p1).2 hp
        rcases p3 with ⟨_, _, i, a, b, ha, hb, hab⟩ | ⟨rfl, rfl, hq⟩
        · exfalso
          obtain ⟨i1, rfl⟩ := List.getElem?_eq_some_iff.1 ha
          obtain ⟨i2, rfl⟩ := List.getElem?_eq_some_iff.1 hb
          exact order_ends hab (List.pairwise_iff_getElem.1 hp' i (i + 1) i1 i2 (by omega))
        · rw [m1, sorted_one m2 (adj_strict p2 hq) (m3.trans p1.symm)]
      · rcases p3 with ⟨rfl, rfl, _⟩ | ⟨rfl, rfl, hq⟩
        · exact f2 hp
        · exfalso
          exact hp ((List.Perm.pairwise_iff (fun h => endsNe_symm h) p1).1 ((adj_strict p2 hq).imp ltE_ne))
    · obtain ⟨rfl, rfl⟩ := h.alone h0 i e h1 h2 h3
      exact makeF_first l [] false i e h1 h2 h3
  · rw [if_neg h0]
    obtain ⟨rfl, rfl⟩ := h.size h0
    rfl
end Go.Proofs.YtpajjnkmaebhcaaGreat
end
section
set_option linter.unusedVariables false
set_option linter.unusedSectionVars false
namespace Fil
variable {n : Int} {es : List E} {R : List (List Nat)} {o lab : Nat → Nat}
theorem rf_ext {A B : List (List Nat)} (h : A.length = B.length) (hr : ∀ v, rf A v = rf B v) : A = B := by
  apply List.ext_getElem h
  intro i h1 h2
  have := hr i
  rwa [rf, rf, List.getD_eq_getElem?_getD, List.getD_eq_getElem?_getD, List.getElem?_eq_getElem h1, List.getElem?_eq_getElem h2] at this
theorem rf_set {A : List (List Nat)} {a : Nat} (h : a < A.length) (x : List Nat) (v : Nat) : rf (A.set a x) v = if v = a then x else rf A v := by
  rw [rf, List.getD_eq_getElem?_getD, List.getElem?_set]
  by_cases e : a = v
  · subst e
    rw [if_pos rfl, if_pos h, if_pos rfl]; rfl
  · rw [if_neg e, if_neg (fun h => e h.symm), rf, List.getD_eq_getElem?_getD]
theorem joinRF_step {R : List (List Nat)} {js : List Nat} {b : Nat} (h0 : 0 < R.length) (hj : ∀ j ∈ js ++ [b], j < R.length) (hb : b ≠ 0) (hbj : b ∉ js) (h0j : 0 ∉ js) : ((joinRF R js).set 0 (rf (joinRF R js) 0 ++ [b])).set b (rf (joinRF R js) b ++ [0]) = joinRF R (js ++ [b]) := by
  have hb1 := hj b (by simp)
  apply rf_ext
  · rw [List.length_set, List.length_set, joinRF_length, joinRF_length]
  · intro v
    rw [joinRF_add h0 hj hb hbj h0j, addR, rf_set (by rw [List.length_set, joinRF_length]; exact hb1), rf_set (by rw [joinRF_length]; exact h0)]
    by_cases e : v = b
    · subst e
      rw [if_pos rfl, if_neg hb, if_pos rfl]
    · rw [if_neg e]
      by_cases e2 : v = 0
      · rw [if_pos e2, if_pos e2]
      · rw [if_neg e2, if_neg e2, if_neg e]
theorem join_make (h : Lev n.toNat (nb (tn es)) o lab) (hG : RightG n es) (hRot : RotL n.toNat (tn es) R) (hsz : (es.length : Int) + n ≤ 4194304) :
    ∃ es', makeR n (es ++ joinE (joinsL n.toNat lab)) = (0, es') ∧ RightG n es' ∧ es'.Perm (es ++ joinE (joinsL n.toNat lab)) := by
  have hlo := hG.lo
  have hjs : ∀ j ∈ joinsL n.toNat lab, j < n.toNat ∧ j ≠ 0 ∧ j ∉ rf R 0 := fun j hj => by
    have h0 : 0 < n.toNat := by
      have := (mem_rootsW.1 (List.mem_of_mem_drop hj)).1
      omega
    obtain ⟨h1, h2, h3, -⟩ := joins_in h hG hRot h0 hj
    exact ⟨h1, h2, h3⟩
  have hnd : (joinsL n.toNat lab).Nodup := (rootsW_nodup n.toNat lab).sublist (List.drop_sublist _ _)
  have hjl : (joinsL n.toNat lab).length ≤ n.toNat := by
    have := sub_length (l := joinsL n.toNat lab) (m := List.range n.toNat) hnd fun j hj => List.mem_range.2 (hjs j hj).1
    rwa [List.length_range] at this
  have hmem : ∀ e ∈ es ++ joinE (joinsL n.toNat lab), okE n e := fun e he => by
    rcases List.mem_append.1 he with he | he
    · exact hG.ok e he
    · obtain ⟨b, hb, rfl⟩ := List.mem_map.1 he
      obtain ⟨b1, b2, -⟩ := hjs b hb
      simp only [okE]
      omega
  have h0 : sizesK n (es ++ joinE (joinsL n.toNat lab)).length = 0 := by
    have := hG.hi
    simp only [sizesK, List.length_append, joinE, List.length_map]
    rw [if_neg (by omega), if_neg (by omega)]
  have hal : ∀ e ∈ es ++ joinE (joinsL n.toNat lab), aloneK n e.1 e.2.1 e.2.2 = 0 := fun e he => by
    obtain ⟨o1, o2, o3, o4, o5⟩ := hmem e he
    simp only [aloneK]
    rw [if_neg (by omega), if_neg (by omega), if_neg (by omega)]
  have hsw : (es ++ joinE (joinsL n.toNat lab)).map swapE = es ++ joinE (joinsL n.toNat lab) := by
    refine (List.map_congr_left fun e he => ?_).trans (List.map_id _)
    obtain ⟨o1, o2, _⟩ := hmem e he
    rw [swapE, if_neg (by omega)]; rfl
  have hends : (es ++ joinE (joinsL n.toNat lab)).Pairwise endsNe := by
    rw [List.pairwise_append]
    refine ⟨hG.sorted.imp ltE_ne, ?_, fun a ha b hb h2 => ?_⟩
    · rw [joinE, List.pairwise_map]
      refine hnd.imp fun hne h2 => hne ?_
      simp only at h2
      omega
    · obtain ⟨j, hj, rfl⟩ := List.mem_map.1 hb
      obtain ⟨b1, b2, b3⟩ := hjs j hj
      simp only at h2
      have hm : ((0 : Nat), j) ∈ tn es := List.mem_map.2 ⟨a, ha, Prod.ext (by simp [h2.1]) (by simp [h2.2])⟩
      exact b3 (((hRot.sys hG).ed _ _).2 (.inl hm))
  obtain ⟨m, m1, m2, m3⟩ := (makeF_all (es ++ joinE (joinsL n.toNat lab)) [] hal .nil).1 (by rw [List.nil_append, hsw]; exact hends)
  rw [List.nil_append, hsw] at m3
  refine ⟨m, by rw [makeR, if_pos h0, m1], ⟨hG.lo, hG.hi, ?_, fun e he => hmem e (m3.mem_iff.1 he), m2⟩, m3⟩
  have := m3.length_eq
  rw [List.length_append, joinE, List.length_map] at this
  omega
section
variable {N : Nat} {lab : Nat → Nat}
theorem joins_nodup (N : Nat) (lab : Nat → Nat) : (joinsL N lab).Nodup := (rootsW_nodup N lab).sublist (List.drop_sublist _ _)
theorem joins_lt {j : Nat} (hj : j ∈ joinsL N lab) : j < N := (mem_rootsW.1 (List.mem_of_mem_drop hj)).1
theorem joins_small (N : Nat) (lab : Nat → Nat) : (joinsL N lab).length ≤ N := by
  have := sub_length (l := joinsL N lab) (m := List.range N) (joins_nodup N lab) fun j hj => List.mem_range.2 (joins_lt hj)
  rwa [List.length_range] at this
theorem comps_pos (hle : ∀ v, v < N → lab v ≤ v) (h : 0 < N) : (compsS N lab).length = (joinsL N lab).length + 1 := by
  rw [comps_rootsW, List.length_map, rootsW_zero h hle]; rfl
theorem comps_none (h : N = 0) : compsS N lab = [] ∧ joinsL N lab = [] := by
  subst h
  exact ⟨rfl, rfl⟩
end
end Fil
end
section
set_option linter.unusedVariables false
namespace Fil
/-- the first k lists, the others empty -/
def cpK (R : List (List Nat)) (k : Nat) : List (List Nat) := (List.range R.length).map fun i => if i < k then rf R i else []
theorem cpK_length (R : List (List Nat)) (k : Nat) : (cpK R k).length = R.length := by simp [cpK]
theorem cpK_rf (R : List (List Nat)) (k v : Nat) : rf (cpK R k) v = if v < k then rf R v else [] := by
  rw [cpK, rf, List.getD_eq_getElem?_getD, List.getElem?_map]
  by_cases h : v < R.length
  · rw [List.getElem?_range h]; rfl
  · rw [List.getElem?_eq_none (by simpa using h)]
    split
    · rw [rf_of (by omega)]; rfl
    · rfl
theorem cpK_zero (R : List (List Nat)) : cpK R 0 = List.replicate R.length [] := by
  apply rf_ext
  · simp [cpK]
  · intro v
    rw [cpK_rf, if_neg (by omega), rf, List.getD_eq_getElem?_getD, List.getElem?_replicate]; split <;> rfl
theorem cpK_all (R : List (List Nat)) : cpK R R.length = R := by
  apply rf_ext (cpK_length _ _)
  intro v
  rw [cpK_rf]
  split
  · rfl
  · rw [rf_of (by omega)]
theorem cpK_set {R : List (List Nat)} {k : Nat} (h : k < R.length) : (cpK R k).set k (rf R k) = cpK R (k + 1) := by
  apply rf_ext
  · simp [cpK]
  · intro v
    rw [rf_set (by rw [cpK_length]; exact h), cpK_rf, cpK_rf]
    by_cases e : v = k
    · subst e
      rw [if_pos rfl, if_pos (by omega)]
    · rw [if_neg e]
      by_cases h2 : v < k
      · rw [if_pos h2, if_pos (by omega)]
      · rw [if_neg h2, if_neg (by omega)]
end Fil
namespace Go.Proofs.YtpajjnkmaebhcaaGreat
open Go Go.RowKit Go.Sl Fil
set_option maxRecDepth 100000
set_option maxHeartbeats 8000000
set_option linter.unusedVariables false
set_option linter.unusedSimpArgs false
attribute [local irreducible] Code.wp wpList bodyPost wpQuiet Exit.then Exit.inBlock Post wpAnyH wpOp
theorem Joined_ok (n : Int) (v : Value) (es : List E) (vr : Value) (hr0 : List Value) (R : List (List Nat)) (o lab : Nat → Nat) (w : World) (hs : Shp v es.length) (hr : RO w No v (esV es)) (hG : RightG n es) (hR : ROs w No vr hr0 R) (hRot : RotL n.toNat (tn es) R) (hL : Lev n.toNat (nb (tn es)) o lab) (hP : PlaneIs n v vr 0 w) (h40 : n ≤ 40) (hm : es.length ≤ 200) (es' : List E) (hm1 : makeR n (es ++ joinE (joinsL n.toNat lab)) = (0, es')) :
    Calls Tryz.prog 7 #[.agg #[.int .i64 n, v], vr] w (Post w No fun r L' => ∃ (vh vo : Value) (ho : List Value), r = .tuple #[.agg #[.int .i64 n, vh], vo, .int .i64 0] ∧ ho.length = n.toNat ∧ L' = [rowHP vh 40 3 es'.length (esV es'), rowHP vo 41 1 n.toNat ho, starHP (kids rowN ho (joinRF R (joinsL n.toNat lab)))]) := by
  have hlo := hG.lo
  have hlenR : R.length = n.toNat := hRot.len
  have hsvr : Shp vr R.length := hR.shp
  have hrvr := hR.ro
  refine enter0 (vs := [_, _]) Tryz.func7 rfl Tryz.ntmps7 rfl ?_
  repeat' first
    | refine k_then ?_ | refine c_seq ?_ | refine c_region ?_ | refine s_nil ?_ | refine s_move (by exact rfl) (by exact rfl) ?_ | refine s_assign (by exact rfl) (by exact rfl) ?_ | refine s_ldk_box (by exact rfl) (by exact rfl) (by exact .tail _ (.head _)) (by exact rfl) (by exact rfl) ?_ | refine o_box (by exact rfl) (by exact rfl) (fun b => ?_) | refine o_alloc (by exact rfl) (fun b => ?_) | fail
  rename_i b2
  revert b; intro b4
  refine s_call (vs := [.agg #[.int .i64 n, v], vr]) (by exact rfl) (by exact rfl) (fun w h => (hP.old h).here) ?_
  obtain ⟨N, rfl⟩ : ∃ N : Nat, n = (N : Int) := ⟨n.toNat, by omega⟩
  have hvc : (Value.agg #[.int .i64 (N : Int), v]).cells.toList = [.int .i64 (N : Int), v] := by simp [Value.cells, one_cells hs.one]
  have hvc4 : (Value.agg #[.int .i64 0, .slice none 0 0]).cells.toList = [.int .i64 0, .slice none 0 0] := by simp [Value.cells]
  rw [hvc]
  simp only [Int.toNat_natCast] at *
  repeat' first
    | refine k_then ?_ | refine c_seq ?_ | refine c_region ?_ | refine s_nil ?_ | refine s_move (by exact rfl) (by exact rfl) ?_ | refine s_assign (by exact rfl) (by exact rfl) ?_ | refine s_neq (by exact rfl) (by exact rfl) (by exact rfl) ?_ | refine s_len (by exact rfl) (by exact rfl) (by assumption) ?_ | refine c_skip ?_ | (refine c_cond_p (by exact rfl) (fun h => ?_) (fun h => ?_) <;> try (exfalso; omega)) | fail
  refine o_make (by exact rfl) (by exact rfl) (by exact rfl) (by omega) (by omega) fun vS hvS => ?_
  have hvS : Shp vS N := by have : Shp vS R.length := hvS; rwa [hlenR] at this
  repeat' first
    | refine o_alloc (by exact rfl) (fun b => ?_) | fail
  revert b; intro b8
  refine o_st_box (i := 0) (by exact rfl) (by exact rfl) (by exact rfl) hvS.one (by simp [Value.cells]) ?_
  have z1 : (madeCells (Value.slice none 0 0).cells ((R.length : Int).toNat * 1)).toList = List.replicate N (.slice none 0 0) := by rw [made1 rfl]; simp [hlenR]
  have hl8 : ((Value.slice none 0 0).cells.toList.set 0 vS) = [vS] := by simp [Value.cells]
  rw [z1, hl8, show (R.length : Int).toNat = N by omega]
  generalize hblk : Code.block 0 _ = cb
  repeat' first
    | refine k_then ?_ | refine c_seq ?_ | refine c_region ?_ | refine s_nil ?_ | refine s_move (by exact rfl) (by exact rfl) ?_ | refine s_len (by exact rfl) (by exact rfl) (by assumption) ?_ | fail
  subst hblk
  refine c_nils 3 1 N ?_
  have hRl : ∀ x ∈ R, x.length ≤ 200 := fun x hx => by
    obtain ⟨i, hi, rfl⟩ := List.getElem_of_mem hx
    have h1 := (hRot.perm i (by omega)).length_eq
    have h2 := nb_length (tn es) i
    rw [rf, List.getD_eq_getElem?_getD, List.getElem?_eq_getElem hi, Option.getD_some] at h1
    rw [tn_len] at h2
    omega
  refine c_cut (fun ho : List Value => ho.length = N) (fun _ => [(1, vr), (2, .pointer (some ⟨b2, 0, none⟩)), (4, .pointer (some ⟨b4, 0, none⟩)), (5, .slice none 0 0), (6, .int .i64 0), (8, .pointer (some ⟨b8, 0, none⟩))])
    (fun ho => [boxHP b8 25 [vS], rowHP vS 41 1 N ho, starHP (kids rowN ho R), boxHP b4 24 [.int .i64 0, .slice none 0 0], boxHP b2 24 [.int .i64 (N : Int), v]]) ?_ fun ho hol => ?_
  · repeat' first
      | refine c_block ?_ | fail
    refine c_loop (fun x : Nat × List Value => x.1 ≤ N ∧ x.2.length = N) (fun x => [(1, vr), (2, .pointer (some ⟨b2, 0, none⟩)), (4, .pointer (some ⟨b4, 0, none⟩)), (5, .slice none 0 0), (6, .int .i64 0), (8, .pointer (some ⟨b8, 0, none⟩)), (27, vr), (28, .int .i64 (R.length : Int)), (29, .int .i64 (x.1 : Int))])
      (fun x => [boxHP b8 25 [vS], rowHP vS 41 1 N x.2, starHP (kids rowN x.2 (cpK R x.1)), boxHP b4 24 [.int .i64 0, .slice none 0 0], boxHP b2 24 [.int .i64 (N : Int), v]]) (fun x => N - x.1) (0, List.replicate N (.slice none 0 0)) [1, 1, 0, 0, 0] ⟨Nat.zero_le _, by simp⟩ ?_ ⟨rfl, rfl, rfl, rfl, rfl, rfl, rfl, rfl, rfl, trivial⟩ ?_
    · rw [cpK_zero, hlenR, kids_nils, ← hvc4]
      exact rfl
    rintro ⟨k, ho⟩ ⟨hk, hol⟩
    dsimp only at hk hol ⊢
    have hcl := cpK_length R k
    by_cases hkl : k < N
    · obtain ⟨hx, hhx⟩ : ∃ x, hr0[k]? = some x := ⟨_, List.getElem?_eq_getElem (by rw [hR.len]; omega)⟩
      have hl0 : R[k]? = some (rf R k) := by rw [rf, List.getD_eq_getElem?_getD, List.getElem?_eq_getElem (by omega)]; rfl
      obtain ⟨hsx, hrx⟩ := hR.kid k hx _ hhx hl0
      have h1' : hr0[k * 1]? = some hx := by rw [Nat.mul_one]; exact hhx
      have hlk := hRl _ (List.mem_of_getElem? hl0)
      repeat' first
        | refine k_then ?_ | refine c_seq ?_ | refine c_region ?_ | refine s_nil ?_ | refine s_move (by exact rfl) (by exact rfl) ?_ | refine s_assign (by exact rfl) (by exact rfl) ?_ | refine s_lss (by exact rfl) (by exact rfl) (by exact rfl) ?_ | refine s_idx (by exact rfl) (by exact rfl) (by exact rfl) (by assumption) (by first | assumption | omega) ?_ | refine s_ld_ro (by exact rfl) (by exact rfl) (by assumption) (by assumption) ?_ | refine c_block ?_ | refine c_skip ?_ | (refine c_cond_p (by exact rfl) (fun h => ?_) (fun h => ?_) <;> try (exfalso; omega)) | fail
      refine p_begin [(0, true), (1, true), (2, true), (3, false), (4, true), (5, false)] [boxHP b8 25 [vS]] (by kernel_rfl) ?_
      repeat' first
        | (refine p_at (by exact rfl) ?_
           first
            | refine t_move (by exact rfl) (by exact rfl) (by exact fun _ h => h.pick [0] (by exact rfl)) ?_ | refine t_ld_box (by exact rfl) (by exact rfl) (by exact .head _) (by exact rfl) (by exact fun _ h => h.pick [0] (by exact rfl)) ?_ | fail)
        | fail
      refine p_call' (vs := [hx]) (by exact rfl) (by exact rfl) (by exact rfl) (fun w h => CloneI_ok hx ((rf R k).map fun z : Nat => (z : Int)) w (by rw [List.length_map]; exact hsx) (by rw [← nV_iV]; exact ro_old h hrx) (by rw [List.length_map]; omega)) ?_
      rintro vk _ rfl
      refine ⟨fun _ h => h.pick [1] (by exact rfl), ?_⟩
      rw [← nV_iV, List.length_map]
      refine know_rowP (v := vk) (.head _) fun hvk _ => ?_
      repeat' first
        | (refine p_at (by exact rfl) ?_
           first
            | refine t_idx (by exact rfl) (by exact rfl) (by exact rfl) (by assumption) (by first | assumption | omega) (by exact fun _ h => h.pick [1] (by exact rfl)) ?_ | fail)
        | fail
      refine p_st_row (j := 2) (by exact rfl) (by exact rfl) (by exact rfl) (by exact rfl) hvk.one (by omega) (fun w h => h.pick [1] (by exact rfl)) ?_
      repeat' first
        | refine p_nil ?_ | fail
      repeat' first
        | refine k_then ?_ | refine c_region ?_ | refine s_nil ?_ | refine s_move (by exact rfl) (by exact rfl) ?_ | refine s_add (by exact rfl) (by exact rfl) (by exact rfl) (by omega) ?_ | refine k_blk ?_ | fail
      refine c_give 2 k (by exact rfl) (by rw [kids_length (by rw [hcl, hlenR]; exact hol), hcl, hlenR]; exact hkl) ?_
      refine c_round (k + 1, ho.set k vk) [0, 0, 0, 0, 0] ?_ ⟨rfl, rfl, rfl, rfl, rfl, rfl, rfl, rfl, rfl, trivial⟩ ⟨by dsimp only; omega, by dsimp only; rw [List.length_set]; exact hol⟩ (by dsimp only; omega)
      dsimp only
      rw [Nat.mul_one, ← cpK_set (by omega), ← kids_put]
      exact rfl
    · repeat' first
        | refine k_then ?_ | refine c_seq ?_ | refine c_region ?_ | refine s_nil ?_ | refine s_lss (by exact rfl) (by exact rfl) (by exact rfl) ?_ | refine c_exit ?_ | refine k_then_exit ?_ | refine k_blk_eq ?_ | (refine c_cond_p (by exact rfl) (fun h => ?_) (fun h => ?_) <;> try (exfalso; omega)) | fail
      obtain rfl : k = N := by omega
      refine cut_end ho [0, 0, 0, 0, 0] (by rw [← hlenR, cpK_all]; exact rfl) ⟨rfl, rfl, rfl, rfl, rfl, rfl, trivial⟩ hol
  repeat' first
    | refine k_then ?_ | refine c_seq ?_ | refine c_region ?_ | refine s_fa (by exact rfl) (by exact rfl) ?_ | refine s_ld_box (by exact rfl) (by exact rfl) (by exact .tail _ (.tail _ (.tail _ (.tail _ (.head _))))) (by exact rfl) ?_ | fail
  refine o_call (vs := [v]) (by exact rfl) (by exact rfl) (fun w h => CloneE_ok v es w hs (ro_old h hr) (by omega)) ?_
  rintro vl _ rfl
  refine know_row (v := vl) (.head _) fun hvl _ => ?_
  repeat' first
    | refine o_alloc (by exact rfl) (fun b => ?_) | fail
  revert b; intro b11
  refine o_st_box (i := 0) (by exact rfl) (by exact rfl) (by exact rfl) hvl.one (by simp [Value.cells]) ?_
  have hl11 : ((Value.slice none 0 0).cells.toList.set 0 vl) = [vl] := by simp [Value.cells]
  rw [hl11]
  repeat' first
    | refine k_then ?_ | refine c_seq ?_ | refine c_region ?_ | refine s_nil ?_ | fail
  refine o_mkf [] [.pointer (some ⟨b11, 0, none⟩), .pointer (some ⟨b8, 0, none⟩)] (by exact rfl) (by exact rfl) (by exact rfl) ?_
  repeat' first
    | refine k_then ?_ | refine c_seq ?_ | refine c_region ?_ | refine s_nil ?_ | refine s_assign (by exact rfl) (by exact rfl) ?_ | refine s_ldk_box (by exact rfl) (by exact rfl) (by exact .tail _ (.tail _ (.tail _ (.tail _ (.tail _ (.tail _ (.head _))))))) (by exact rfl) (by exact rfl) ?_ | fail
  refine o_call (vs := [.agg #[.int .i64 (N : Int), v]]) (by exact rfl) (by exact rfl) (fun w h => Components_ok (N : Int) v es w hs (ro_old h hr) hG) ?_
  rintro vcm _ ⟨met, out, lab2, hr2, hB, hcl2, rfl⟩
  simp only [Int.toNat_natCast] at *
  rw [show compsL N N met lab2 = compsS N lab from hB.comps.trans (lev_comps hB.lev hL)] at hcl2 ⊢
  generalize hblk : Code.block 2 _ = cb
  refine know_row (v := vcm) (.head _) fun hvcm _ => ?_
  repeat' first
    | refine k_then ?_ | refine c_seq ?_ | refine c_region ?_ | refine s_nil ?_ | refine s_move (by exact rfl) (by exact rfl) ?_ | refine s_assign (by exact rfl) (by exact rfl) ?_ | refine s_len (by exact rfl) (by exact rfl) (by assumption) ?_ | fail
  subst hblk
  generalize hcs : compsS N lab = cs at *
  refine c_cut (fun x : Value × List Value => x.2.length = N) (fun x => [(2, .pointer (some ⟨b2, 0, none⟩)), (4, .pointer (some ⟨b4, 0, none⟩)), (8, .pointer (some ⟨b8, 0, none⟩)), (11, .pointer (some ⟨b11, 0, none⟩))])
    (fun x => [boxHP b11 22 [x.1], rowHP x.1 40 3 (es ++ joinE (joinsL N lab)).length (esV (es ++ joinE (joinsL N lab))), boxHP b8 25 [vS], rowHP vS 41 1 N x.2, starHP (kids rowN x.2 (joinRF R (joinsL N lab))), boxHP b4 24 [.int .i64 0, .slice none 0 0], boxHP b2 24 [.int .i64 (N : Int), v]]) ?_ ?_
  · have hJn : (joinsL N lab).length ≤ N ∧ ∀ j ∈ joinsL N lab, j < N ∧ j ≠ 0 ∧ 0 < N := by
      have hin : ∀ j ∈ joinsL N lab, j < N ∧ j ≠ 0 ∧ 0 < N := fun j hj => by
        have h0 : 0 < N := by
          have := (mem_rootsW.1 (List.mem_of_mem_drop hj)).1
          omega
        obtain ⟨h1, h2, -, -⟩ := joins_in (n := (N : Int)) hL hG hRot h0 hj
        exact ⟨h1, h2, h0⟩
      have hnd : (joinsL N lab).Nodup := (rootsW_nodup N lab).sublist (List.drop_sublist _ _)
      have := sub_length (l := joinsL N lab) (m := List.range N) hnd fun j hj => List.mem_range.2 (hin j hj).1
      rw [List.length_range] at this
      exact ⟨this, hin⟩
    have hnd : (joinsL N lab).Nodup := (rootsW_nodup N lab).sublist (List.drop_sublist _ _)
    have hhead : ∀ (i : Nat) (c : List Nat), cs[i]? = some c → 0 < N ∧ cs.length = (joinsL N lab).length + 1 ∧ ∃ (r : Nat) (t : List Nat), c = r :: t ∧ (i = 0 → r = 0) ∧ (∀ k, i = k + 1 → (joinsL N lab)[k]? = some r) := by
      intro i c hc
      rw [← hcs, comps_rootsW, List.getElem?_map] at hc
      cases hr : (rootsW N lab)[i]? with
      | none => rw [hr] at hc; simp at hc
      | some r =>
        rw [hr] at hc
        obtain rfl : (List.range N).filter (fun u => lab u == r) = c := by simpa using hc
        obtain ⟨r1, r2⟩ := mem_rootsW.1 (List.mem_of_getElem? hr)
        obtain ⟨t, ht⟩ := comp_head r1 r2 hL.le
        have h0 : 0 < N := by omega
        have hz := rootsW_zero h0 hL.le
        refine ⟨h0, by rw [← hcs, comps_rootsW, List.length_map, hz]; rfl, r, t, ht, fun e => ?_, fun k e => ?_⟩
        · rw [hz, e] at hr
          simpa using hr.symm
        · rw [hz, e] at hr
          simpa using hr
    have hJt : ∀ k, ((joinsL N lab).take k).length ≤ N ∧ ∀ x ∈ joinRF R ((joinsL N lab).take k), x.length ≤ 300 := fun k => by
      have h1 : ((joinsL N lab).take k).length ≤ N := by rw [List.length_take]; omega
      refine ⟨h1, fun x hx => ?_⟩
      obtain ⟨v, hv, rfl⟩ := List.mem_map.1 hx
      have hrl : (rf R v).length ≤ 200 := hRl _ (by rw [rf, List.getD_eq_getElem?_getD, List.getElem?_eq_getElem (List.mem_range.1 hv)]; exact List.getElem_mem _)
      split
      · rw [List.length_append]; omega
      · split
        · rw [List.length_append, List.length_singleton]; omega
        · omega
    have hcsN : cs = [] → N = 0 := fun e => by
      refine Classical.byContradiction fun hne => ?_
      rw [← hcs, comps_rootsW, rootsW_zero (by omega) hL.le] at e
      simp at e
    generalize joinsL N lab = J at *
    repeat' first
      | refine c_block ?_ | fail
    refine c_loop (fun x : Nat × Value × List Value => x.1 ≤ cs.length ∧ x.2.2.length = N) (fun x => [(2, .pointer (some ⟨b2, 0, none⟩)), (4, .pointer (some ⟨b4, 0, none⟩)), (8, .pointer (some ⟨b8, 0, none⟩)), (11, .pointer (some ⟨b11, 0, none⟩)), (12, .func (.func 19) #[] #[.pointer (some ⟨b11, 0, none⟩), .pointer (some ⟨b8, 0, none⟩)]), (13, vcm), (46, vcm), (47, .int .i64 (cs.length : Int)), (48, .int .i64 (x.1 : Int))])
      (fun x => [boxHP b11 22 [x.2.1], rowHP x.2.1 40 3 (es ++ joinE (J.take (x.1 - 1))).length (esV (es ++ joinE (J.take (x.1 - 1)))), boxHP b8 25 [vS], rowHP vS 41 1 N x.2.2, starHP (kids rowN x.2.2 (joinRF R (J.take (x.1 - 1)))), rowHP vcm 41 1 cs.length hr2, starHP (kids rowN hr2 cs), boxHP b4 24 [.int .i64 0, .slice none 0 0], boxHP b2 24 [.int .i64 (N : Int), v]]) (fun x => cs.length - x.1) (0, vl, ho) [2, 2, 2, 2, 2, 0, 0, 0, 0] ⟨Nat.zero_le _, hol⟩ ?_ ⟨rfl, rfl, rfl, rfl, rfl, rfl, rfl, rfl, rfl, trivial⟩ ?_
    · dsimp only
      rw [List.take_zero, show joinE [] = [] from rfl, List.append_nil, joinRF_nil]
      exact rfl
    rintro ⟨i, vl1, ho1⟩ ⟨hi, hol1⟩
    dsimp only at hi hol1 ⊢
    by_cases hil : i < cs.length
    · obtain ⟨c, hci⟩ : ∃ c, cs[i]? = some c := ⟨_, List.getElem?_eq_getElem hil⟩
      obtain ⟨h0, hcl, r, t, rfl, hr1, hr3⟩ := hhead i c hci
      cases i with
      | zero =>
        repeat' first
          | refine k_then ?_ | refine c_seq ?_ | refine c_region ?_ | refine s_nil ?_ | refine s_move (by exact rfl) (by exact rfl) ?_ | refine s_assign (by exact rfl) (by exact rfl) ?_ | refine s_lss (by exact rfl) (by exact rfl) (by exact rfl) ?_ | refine s_gtr (by exact rfl) (by exact rfl) (by exact rfl) ?_ | refine s_add (by exact rfl) (by exact rfl) (by exact rfl) (by omega) ?_ | refine c_block ?_ | refine c_skip ?_ | refine k_blk ?_ | (refine c_cond_p (by exact rfl) (fun h => ?_) (fun h => ?_) <;> try (exfalso; omega)) | fail
        refine c_round (1, vl1, ho1) [0, 0, 0, 0, 0, 0, 0, 0, 0] (by exact rfl) ⟨rfl, rfl, rfl, rfl, rfl, rfl, rfl, rfl, rfl, trivial⟩ ⟨by dsimp only; omega, hol1⟩ (by dsimp only; omega)
      | succ k =>
        have hJk := hr3 k rfl
        obtain ⟨c0, hc0⟩ : ∃ c, cs[0]? = some c := ⟨_, List.getElem?_eq_getElem (by omega)⟩
        obtain ⟨-, -, r0, t0, rfl, hr01, -⟩ := hhead 0 c0 hc0
        obtain rfl := hr01 rfl
        obtain ⟨b1, b2', -⟩ := hJn.2 r (List.mem_of_getElem? hJk)
        obtain ⟨hd0, hhd0⟩ : ∃ hd, hr2[0]? = some hd := ⟨_, List.getElem?_eq_getElem (by omega)⟩
        obtain ⟨hd1, hhd1⟩ : ∃ hd, hr2[k + 1]? = some hd := ⟨_, List.getElem?_eq_getElem (by omega)⟩
        have g0 : hr2[0 * 1]? = some hd0 := hhd0
        have g1 : hr2[(k + 1) * 1]? = some hd1 := by rw [Nat.mul_one]; exact hhd1
        have hk0 : rowHP hd0 3 1 (0 :: t0).length (nV (0 :: t0)) ∈ kids rowN hr2 cs := kids_mem (f := rowN) hhd0 hc0
        have hk1 : rowHP hd1 3 1 (r :: t).length (nV (r :: t)) ∈ kids rowN hr2 cs := kids_mem (f := rowN) hhd1 hci
        have q0 : (nV (0 :: t0))[0 * 1]? = some (.int .i64 0) := rfl
        have q1 : (nV (r :: t))[0 * 1]? = some (.int .i64 (r : Int)) := rfl
        refine know_kid (Ks := kids rowN hr2 cs) (by exact .tail _ (.tail _ (.tail _ (.tail _ (.tail _ (.tail _ (.head _))))))) hk0 fun hs0 _ => ?_
        refine know_kid (Ks := kids rowN hr2 cs) (by exact .tail _ (.tail _ (.tail _ (.tail _ (.tail _ (.tail _ (.head _))))))) hk1 fun hs1 _ => ?_
        have hl0 : 0 < (0 :: t0).length := by simp
        have hl1 : 0 < (r :: t).length := by simp
        obtain ⟨hjt1, hjt2⟩ := hJt (k + 1 - 1)
        have htk : J.take (k + 1 + 1 - 1) = J.take (k + 1 - 1) ++ [r] := by
          rw [show k + 1 + 1 - 1 = k + 1 by omega, show k + 1 - 1 = k by omega, List.take_add_one, hJk]; rfl
        have hrn : r ∉ J.take (k + 1 - 1) := by
          rw [show k + 1 - 1 = k by omega]
          intro hh
          obtain ⟨q, hq, e⟩ := List.getElem_of_mem hh
          obtain ⟨hk2, e2⟩ := List.getElem?_eq_some_iff.1 hJk
          rw [List.getElem_take] at e
          rw [List.length_take] at hq
          have := congrArg J.idxOf (e.trans e2.symm)
          rw [hnd.idxOf_getElem, hnd.idxOf_getElem] at this
          omega
        generalize hjs : J.take (k + 1 - 1) = js at *
        have hjn : ∀ j ∈ js ++ [r], j < R.length := fun j hj => by
          rw [hlenR]
          rcases List.mem_append.1 hj with hj | hj
          · exact (hJn.2 j (List.mem_of_mem_take (hjs ▸ hj))).1
          · obtain rfl : j = r := by simpa using hj
            exact b1
        have hj0 : 0 ∉ js := fun hj => (hJn.2 0 (List.mem_of_mem_take (hjs ▸ hj))).2.1 rfl
        have hst := joinRF_step (R := R) (js := js) (b := r) (by omega) hjn b2' hrn hj0
        have hje : es ++ joinE js ++ [(((0 : Nat) : Int), (r : Int), (0 : Int))] = es ++ joinE (js ++ [r]) := by simp [joinE]
        have hjl : (es ++ joinE js).length ≤ 1000000 := by rw [List.length_append, joinE, List.length_map]; omega
        repeat' first
          | refine k_then ?_ | refine c_seq ?_ | refine c_region ?_ | refine s_nil ?_ | refine s_move (by exact rfl) (by exact rfl) ?_ | refine s_assign (by exact rfl) (by exact rfl) ?_ | refine s_lss (by exact rfl) (by exact rfl) (by exact rfl) ?_ | refine s_gtr (by exact rfl) (by exact rfl) (by exact rfl) ?_ | refine c_block ?_ | refine c_skip ?_ | (refine c_cond_p (by exact rfl) (fun h => ?_) (fun h => ?_) <;> try (exfalso; omega)) | fail
        refine p_begin [(0, true), (1, true), (2, true), (3, true), (4, true), (5, true), (6, true), (7, true), (8, true), (9, true), (10, true), (11, true), (12, false)] [rowHP vcm 41 1 cs.length hr2, starHP (kids rowN hr2 cs), boxHP b4 24 [.int .i64 0, .slice none 0 0], boxHP b2 24 [.int .i64 (N : Int), v]] (by kernel_rfl) ?_
        repeat' first
          | (refine p_at (by exact rfl) ?_
             first
              | refine t_move (by exact rfl) (by exact rfl) (by exact fun _ h => h.tl.tl.tl.tl.tl) ?_ | refine t_idx (by exact rfl) (by exact rfl) (by exact rfl) (by assumption) (by first | assumption | omega) (by exact fun _ h => h.tl.tl.tl.tl.tl) ?_ | refine t_idxi (by exact rfl) (by exact rfl) (by exact rfl) (by assumption) (by first | assumption | omega) (by exact fun _ h => h.tl.tl.tl.tl.tl) ?_ | refine t_ld_row (by exact rfl) (by exact rfl) (by exact .head _) (by assumption) (by exact fun _ h => h.tl.tl.tl.tl.tl) ?_ | refine t_ld_kid (by exact rfl) (by exact rfl) (by assumption) (by exact .tail _ (.head _)) (by assumption) (by exact fun _ h => h.tl.tl.tl.tl.tl) ?_ | fail)
          | fail
        refine p_lendv (f := 19) (vs := [.int .i64 0, .int .i64 (r : Int)]) (pre := []) (caps := [.pointer (some ⟨b11, 0, none⟩), .pointer (some ⟨b8, 0, none⟩)]) [boxHP b11 22 [vl1], rowHP vl1 40 3 (es ++ joinE js).length (esV (es ++ joinE js)), boxHP b8 25 [vS], rowHP vS 41 1 N ho1, starHP (kids rowN ho1 (joinRF R js))] [rowHP vcm 41 1 cs.length hr2, starHP (kids rowN hr2 cs), boxHP b4 24 [.int .i64 0, .slice none 0 0], boxHP b2 24 [.int .i64 (N : Int), v]] rfl (by exact rfl) (by exact rfl) (by exact rfl) (by exact rfl) (fun w S h => join1_ok 0 r N b11 b8 vl1 vS (es ++ joinE js) ho1 (joinRF R js) w S h.own h0 b1 (Ne.symm b2') hol1 (by rw [joinRF_length]; exact hlenR) hjl (fun x hx => by have := hjt2 x hx; omega)) ?_
        rintro _ _ ⟨rfl, vl3, ho3, hol3, rfl⟩
        refine ⟨fun _ h => h.tl.tl.tl.tl.tl, ?_⟩
        rw [hst, hje, ← htk]
        repeat' first
          | refine p_nil ?_ | fail
        repeat' first
          | refine k_then ?_ | refine c_region ?_ | refine s_nil ?_ | refine s_move (by exact rfl) (by exact rfl) ?_ | refine s_add (by exact rfl) (by exact rfl) (by exact rfl) (by omega) ?_ | refine k_blk ?_ | fail
        refine c_round (k + 1 + 1, vl3, ho3) [0, 0, 0, 0, 0, 0, 0, 0, 0] (by exact rfl) ⟨rfl, rfl, rfl, rfl, rfl, rfl, rfl, rfl, rfl, trivial⟩ ⟨by dsimp only; omega, hol3⟩ (by dsimp only; omega)
    · repeat' first
        | refine k_then ?_ | refine c_seq ?_ | refine c_region ?_ | refine s_nil ?_ | refine s_lss (by exact rfl) (by exact rfl) (by exact rfl) ?_ | refine c_exit ?_ | refine k_then_exit ?_ | refine k_blk_eq ?_ | (refine c_cond_p (by exact rfl) (fun h => ?_) (fun h => ?_) <;> try (exfalso; omega)) | fail
      obtain rfl : i = cs.length := by omega
      refine cut_end (vl1, ho1) [0, 0, 0, 0, 0, 2, 2] ?_ ⟨rfl, rfl, rfl, rfl, trivial⟩ hol1
      dsimp only
      have e : J.take (cs.length - 1) = J := by
        cases hc : cs with
        | nil =>
          have h0 : N = 0 := hcsN hc
          have := hJn.1
          rw [List.eq_nil_of_length_eq_zero (l := J) (by omega)]; rfl
        | cons c0 cs0 =>
          have := (hhead 0 c0 (by rw [hc]; rfl)).2.1
          exact List.take_of_length_le (by rw [← hc]; omega)
      rw [e]
      exact rfl
  · rintro ⟨vl2, ho2⟩ hol2
    dsimp only at hol2 ⊢
    have hJl : (joinsL N lab).length ≤ N := by
      have hnd : (joinsL N lab).Nodup := (rootsW_nodup N lab).sublist (List.drop_sublist _ _)
      have := sub_length (l := joinsL N lab) (m := List.range N) hnd fun j hj => List.mem_range.2 (mem_rootsW.1 (List.mem_of_mem_drop hj)).1
      rwa [List.length_range] at this
    have hjl : (es ++ joinE (joinsL N lab)).length ≤ 1000000 := by rw [List.length_append, joinE, List.length_map]; omega
    refine know_row (v := vl2) (.tail _ (.head _)) fun hvl2 _ => ?_
    repeat' first
      | refine k_then ?_ | refine c_seq ?_ | refine c_region ?_ | refine s_fa (by exact rfl) (by exact rfl) ?_ | refine s_ld_box (by exact rfl) (by exact rfl) (by first | exact .head _ | exact .tail _ (.tail _ (.tail _ (.tail _ (.tail _ (.tail _ (.head _))))))) (by exact rfl) ?_ | fail
    refine o_call (vs := [.int .i64 (N : Int), vl2]) (by exact rfl) (by exact rfl) (fun w h => Make_ok (N : Int) vl2 (es ++ joinE (joinsL N lab)) w hvl2 (ro_own h (by exact .tail _ (.head _))) (by omega)) ?_
    rintro _ _ ⟨vh, k, m, rfl, rfl, hMP⟩
    have hMP := hMP.eq
    rw [hm1] at hMP
    obtain ⟨rfl, rfl⟩ := Prod.mk.inj hMP
    rw [if_pos rfl]
    refine know_row (v := vh) (.head _) fun hvh _ => ?_
    repeat' first
      | refine s_move (by exact rfl) (by exact rfl) ?_ | refine s_extract (by exact rfl) (by exact rfl) (by exact rfl) ?_ | refine o_alloc (by exact rfl) (fun b => ?_) | fail
    revert b; intro b15
    refine o_stk_box (i := 0) (us := [.int .i64 (N : Int), vh]) (by exact rfl) (by exact rfl) (by exact rfl) (by exact rfl) (by exact rfl) (by
      intro u hu
      simp only [List.mem_cons, List.not_mem_nil, or_false] at hu
      rcases hu with rfl | rfl
      · rfl
      · exact hvh.one) (by simp [Value.cells]) ?_
    rw [hvc4, show putL [Value.int .i64 0, .slice none 0 0] 0 [.int .i64 (N : Int), vh] = [.int .i64 (N : Int), vh] from rfl]
    repeat' first
      | refine k_then ?_ | refine c_seq ?_ | refine s_nil ?_ | refine s_assign (by exact rfl) (by exact rfl) ?_ | fail
    refine p_begin [(0, true), (1, true), (2, false), (3, true), (4, true)] [boxHP b15 24 [.int .i64 (N : Int), vh], boxHP b8 25 [vS]] (by kernel_rfl) ?_
    refine p_at (by exact rfl) ?_
    refine t_ldk_box (by exact rfl) (by exact rfl) (by exact .head _) (by exact rfl) (by exact rfl) (fun _ h => h.pick [0, 3] (by exact rfl)) ?_
    refine p_at (by exact rfl) ?_
    refine t_ld_box (by exact rfl) (by exact rfl) (by exact .tail _ (.head _)) (by exact rfl) (fun _ h => h.pick [0, 3] (by exact rfl)) ?_
    refine p_stk_box (j := 7) (us := [.int .i64 (N : Int), vh]) (by exact rfl) (by exact rfl) (by exact rfl) (by exact rfl) (by exact rfl) (by exact rfl) (by
      intro u hu
      simp only [List.mem_cons, List.not_mem_nil, or_false] at hu
      rcases hu with rfl | rfl
      · rfl
      · exact hvh.one) (by simp) (fun _ h => h.pick [0, 3] (by exact rfl)) ?_
    refine p_at (by exact rfl) ?_
    refine t_assign (by exact rfl) (by exact rfl) (fun _ h => h.pick [0, 3] (by exact rfl)) ?_
    refine p_at (by exact rfl) ?_
    refine t_assign (by exact rfl) (by exact rfl) (fun _ h => h.pick [0, 3] (by exact rfl)) ?_
    refine p_nil ?_
    repeat' first
      | refine k_then ?_ | refine c_ret ?_ | fail
    refine retL [.cell 4 24, .tmp 5, .tmp 6] [.agg #[.int .i64 (N : Int), vh], vS, .int .i64 0] [1, 4, 4] rfl ⟨res_cellk (tb := 24) (cs := [.int .i64 (N : Int), vh]) (k := 2) (off := 0) (us := [.int .i64 (N : Int), vh]) rfl (by exact .tail _ (.tail _ (.tail _ (.tail _ (.tail _ (.tail _ (.tail _ (.head _)))))))) rfl rfl, res_tmp rfl, res_tmp rfl, trivial⟩ (by exact rfl) ⟨vh, vS, ho2, rfl, hol2, rfl⟩
end Go.Proofs.YtpajjnkmaebhcaaGreat
end
section
set_option linter.unusedVariables false
set_option linter.unusedSectionVars false
namespace Fil
variable {n : Int} {es es' : List E} {R : List (List Nat)} {o lab o' lab' : Nat → Nat}
theorem plane_of {N : Nat} {l : List (Nat × Nat)} {lab : Nat → Nat} {R : List (List Nat)} (h : ∀ c ∈ compsS N lab, eulerK l (facesR N l R) c = 2) : planeR N l lab R = 0 := by
  rw [planeR, if_neg]
  intro hh
  obtain ⟨x, hx, hx2⟩ := List.any_eq_true.1 hh
  obtain ⟨c', hc', rfl⟩ := List.mem_map.1 hx
  exact of_decide_eq_true hx2 (h c' hc')
theorem join_all (h : Lev n.toNat (nb (tn es)) o lab) (hG : RightG n es) (hRot : RotL n.toNat (tn es) R) (hp : es'.Perm (es ++ joinE (joinsL n.toNat lab))) (hG' : RightG n es') (h' : Lev n.toNat (nb (tn es')) o' lab') (hP : planeR n.toNat (tn es) lab R = 0) :
    RotL n.toNat (tn es') (joinRF R (joinsL n.toNat lab)) ∧ planeR n.toNat (tn es') lab' (joinRF R (joinsL n.toNat lab)) = 0 ∧ (0 < n.toNat → (compsS n.toNat lab').length = 1) := by
  by_cases hj : joinsL n.toNat lab = []
  · rw [hj, show joinE [] = [] from rfl, List.append_nil] at hp
    obtain rfl := sorted_one hG'.sorted hG.sorted hp
    have hc := lev_comps h h'
    rw [hj, joinRF_nil]
    refine ⟨hRot, ?_, fun h0 => ?_⟩
    · rw [planeR, eulerL, ← hc, ← eulerL, ← planeR]; exact hP
    · rw [← hc, comps_pos h.le h0, hj]; rfl
  · have h0 : 0 < n.toNat := by
      obtain ⟨j, hj⟩ := List.exists_mem_of_ne_nil _ hj
      have := joins_lt hj
      omega
    refine ⟨join_rot h hG hRot h0 hp, plane_of (join_plane h hG hRot h0 hp hG' h' hj (planeR_two hP)), fun _ => ?_⟩
    rw [join_comps h hG h0 hp hG' h']; rfl
theorem find_own (hG : RightG n es) {e : E} (he : e ∈ es) : ∃ q : Nat, findK es e.1 e.2.1 = (q : Int) ∧ es[q]? = some e := by
  have hb : between e.1 e.2.1 e = true := by simp [between]
  cases hf : es.findIdx? (between e.1 e.2.1) with
  | none =>
    have := List.findIdx?_eq_none_iff.1 hf e he
    rw [hb] at this; simp at this
  | some q =>
    refine ⟨q, by rw [findK, hf], ?_⟩
    obtain ⟨hq, h2, -⟩ := List.findIdx?_eq_some_iff_getElem.1 hf
    rw [List.getElem?_eq_getElem hq]
    congr 1
    have hm := List.getElem_mem hq
    obtain ⟨a1, a2, -, -, -⟩ := hG.ok _ hm
    obtain ⟨b1, b2, -, -, -⟩ := hG.ok e he
    simp only [between, decide_eq_true_eq] at h2
    refine Classical.byContradiction fun hne => ?_
    have key : ∀ {l : List E}, l.Pairwise ltE → ∀ x ∈ l, ∀ y ∈ l, x ≠ y → ltE x y ∨ ltE y x := by
      intro l hl
      induction l with
      | nil => intro x hx; simp at hx
      | cons a l ih =>
        rw [List.pairwise_cons] at hl
        intro x hx y hy hne
        rcases List.mem_cons.1 hx with e1 | hx2 <;> rcases List.mem_cons.1 hy with e2 | hy2
        · exact absurd (e1.trans e2.symm) hne
        · exact .inl (e1 ▸ hl.1 y hy2)
        · exact .inr (e2 ▸ hl.1 x hx2)
        · exact ih hl.2 x hx2 y hy2 hne
    rcases key hG.sorted _ hm e he hne with h | h <;> simp only [ltE] at h <;> omega
end Fil
end
section
set_option linter.unusedVariables false
namespace Go.Sl
open Go Go.RowKit
theorem tw_neq3 {P : Program} {w0 : World} {S0 : FS} {n : Nat} {F : List (Nat × Value)} {L Lk : List HP} {x y : Operand} {t t' : TypeId} {ops : Array Oper} {Q : Exit → Act → World → Prop} {d i : Nat} {ty : TypeId} {ps : String} {af : Array Edge} {plan : List PI} {a b c a' b' c' : Int} {gd : Nat × Bool} {u : Nat} {want : Bool} [T : E3Ty P t] (hg : gslot ops ⟨some d, .binOp .neq t x y t', ty, ps, af, some gd⟩ = some (u, want)) (ht : fget F u = some (.bool want)) (hn : Nat.blt d n = true) (hx : ev F x = some (.agg #[.int .i64 a, .int .i64 b, .int .i64 c])) (hy : ev F y = some (.agg #[.int .i64 a', .int .i64 b', .int .i64 c'])) (hkeep : ∀ w, St w0 S0 L w → St w0 S0 Lk w) (h : RP P w0 S0 n ops Q Lk plan ((d, .bool (!decide (a = a' ∧ b = b' ∧ c = c'))) :: F) L) : RPo P w0 S0 n ops Q Lk ⟨some d, .binOp .neq t x y t', ty, ps, af, some gd⟩ i true plan F L := fun ho => p_want ho hg ht rfl hn hkeep (q_neq3 rfl hx hy) h
end Go.Sl
namespace Go.Proofs.YtpajjnkmaebhcaaGreat
open Go Go.RowKit Go.Sl Fil
set_option maxRecDepth 100000
set_option maxHeartbeats 8000000
set_option linter.unusedVariables false
set_option linter.unusedSimpArgs false
attribute [local irreducible] Code.wp wpList bodyPost wpQuiet Exit.then Exit.inBlock Post wpAnyH wpOp
theorem FacesWhole_ok (n : Int) (v : Value) (es : List E) (vr : Value) (hr0 : List Value) (ls : List (List Int)) (w : World) (hs : Shp v es.length) (hr : RO w No v (esV es)) (hR : ROsI w No vr hr0 ls) (hlen : ∀ l ∈ ls, l.length ≤ 17592186044416) :
    Calls Tryz.prog 4 #[.agg #[.int .i64 n, v], vr] w (Post w No (Just (.bool true))) := by
  refine enter0 (vs := [_, _]) Tryz.func4 rfl Tryz.ntmps4 rfl ?_
  repeat' first
    | refine k_then ?_ | refine c_seq ?_ | refine c_region ?_ | refine s_nil ?_ | refine s_move (by exact rfl) (by exact rfl) ?_ | refine s_assign (by exact rfl) (by exact rfl) ?_ | refine s_ldk_box (by exact rfl) (by exact rfl) (by exact .head _) (by exact rfl) (by exact rfl) ?_ | refine o_box (by exact rfl) (by exact rfl) (fun b => ?_) | fail
  refine s_call (by exact rfl) (by exact rfl) (fun w h => Light7_ok n v es.length vr hr0 ls 30 w hs (rosI_old h hR) hlen (by omega)) ?_
  cases hl : light7 n es.length ls 30
  · repeat' first
      | refine k_then ?_ | refine c_seq ?_ | refine c_region ?_ | refine s_nil ?_ | refine s_move (by exact rfl) (by exact rfl) ?_ | refine s_not (by exact rfl) (by exact rfl) ?_ | refine s_pick_t (by exact rfl) (by exact rfl) (by exact rfl) ?_ | refine c_cond_t (by exact rfl) ?_ | refine g_skip (by exact rfl) (by exact rfl) (by exact rfl) (by exact rfl) ?_ | fail
    refine s_call (vs := []) (by exact rfl) (by exact rfl) (fun w h => alive10_ok w) ?_
    repeat' first
      | refine k_then ?_ | refine s_nil ?_ | refine s_assign (by exact rfl) (by exact rfl) ?_ | refine c_ret ?_ | refine k_then_ret ?_ | fail
    refine ret1 [] rfl rfl (by exact rfl) ⟨rfl, rfl⟩
  obtain ⟨l1, l2, l3, l4⟩ := light7_t hl
  have hle : ∀ l ∈ ls, l.length ≤ 1048576 := fun l hl => by have := l4 l hl; omega
  by_cases hk : rotK n es ls = 0
  case neg =>
    repeat' first
      | refine s_move (by exact rfl) (by exact rfl) ?_ | refine s_not (by exact rfl) (by exact rfl) ?_ | refine w_move (by exact rfl) (by exact rfl) (by exact rfl) (by exact rfl) ?_ | refine w_ldk_box (by exact rfl) (by exact rfl) (by exact rfl) (by exact rfl) (by exact .head _) (by exact rfl) (by exact rfl) ?_ | refine g_on (by exact rfl) (by exact rfl) ?_ | fail
    refine s_call (by exact rfl) (by exact rfl) (fun w h => refPlane_no n v es vr hr0 ls w hs (ro_old h hr) (by omega) (rosI_old h hR) hk) ?_
    repeat' first
      | refine k_then ?_ | refine c_seq ?_ | refine c_region ?_ | refine s_nil ?_ | refine s_pick_f (by exact rfl) (by exact rfl) (by exact rfl) ?_ | (refine c_cond_p (by exact rfl) (fun h => ?_) (fun h => ?_) <;> try (exfalso; omega)) | refine w_neq (by exact rfl) (by exact rfl) (by exact rfl) (by exact rfl) (by exact rfl) ?_ | fail
    refine s_call (vs := []) (by exact rfl) (by exact rfl) (fun w h => alive10_ok w) ?_
    repeat' first
      | refine k_then ?_ | refine s_nil ?_ | refine s_assign (by exact rfl) (by exact rfl) ?_ | refine c_ret ?_ | refine k_then_ret ?_ | fail
    refine ret1 [] rfl rfl (by exact rfl) ⟨rfl, rfl⟩
  obtain ⟨hG, R, rfl, hRot⟩ := rot_sys hk
  have hRs := hR.nat
  obtain ⟨o, lab, hL⟩ := lev_ex w hG
  repeat' first
    | refine s_move (by exact rfl) (by exact rfl) ?_ | refine s_not (by exact rfl) (by exact rfl) ?_ | refine w_move (by exact rfl) (by exact rfl) (by exact rfl) (by exact rfl) ?_ | refine w_ldk_box (by exact rfl) (by exact rfl) (by exact rfl) (by exact rfl) (by exact .head _) (by exact rfl) (by exact rfl) ?_ | refine g_on (by exact rfl) (by exact rfl) ?_ | fail
  revert b; intro bg
  refine s_call (by exact rfl) (by exact rfl) (fun w h => refPlane_ok n v es vr hr0 R o lab w hs (ro_old h hr) hG (ros_old h hRs) hRot hL) ?_
  by_cases hp : planeR n.toNat (tn es) lab R = 0
  case neg =>
    repeat' first
      | refine k_then ?_ | refine c_seq ?_ | refine c_region ?_ | refine s_nil ?_ | refine s_pick_f (by exact rfl) (by exact rfl) (by exact rfl) ?_ | (refine c_cond_p (by exact rfl) (fun h => ?_) (fun h => ?_) <;> try (exfalso; omega)) | refine w_neq (by exact rfl) (by exact rfl) (by exact rfl) (by exact rfl) (by exact rfl) ?_ | fail
    refine s_call (vs := []) (by exact rfl) (by exact rfl) (fun w h => alive10_ok w) ?_
    repeat' first
      | refine k_then ?_ | refine s_nil ?_ | refine s_assign (by exact rfl) (by exact rfl) ?_ | refine c_ret ?_ | refine k_then_ret ?_ | fail
    refine ret1 [] rfl rfl (by exact rfl) ⟨rfl, rfl⟩
  rw [hp]
  have hlo := hG.lo
  obtain ⟨es', hm1, hG', hperm⟩ := join_make hL hG hRot (by omega)
  obtain ⟨o', lab', hL'⟩ := lev_ex w hG'
  obtain ⟨hRot', hp', hone'⟩ := join_all hL hG hRot hperm hG' hL' hp
  have hAl : (joinRF R (joinsL n.toNat lab)).length = n.toNat := by rw [joinRF_length]; exact hRot.len
  have hel : es'.length = es.length + (joinsL n.toNat lab).length := by rw [hperm.length_eq, List.length_append, joinE, List.length_map]
  have hpos := comps_pos (N := n.toNat) hL.le
  have hnone := comps_none (N := n.toNat) (lab := lab)
  have hJs := joins_small n.toNat lab
  repeat' first
    | refine k_then ?_ | refine c_seq ?_ | refine c_region ?_ | refine s_nil ?_ | refine s_move (by exact rfl) (by exact rfl) ?_ | refine s_pick_f (by exact rfl) (by exact rfl) (by exact rfl) ?_ | refine s_ldk_box (by exact rfl) (by exact rfl) (by exact .head _) (by exact rfl) (by exact rfl) ?_ | refine c_skip ?_ | (refine c_cond_p (by exact rfl) (fun h => ?_) (fun h => ?_) <;> try (exfalso; omega)) | refine w_neq (by exact rfl) (by exact rfl) (by exact rfl) (by exact rfl) (by exact rfl) ?_ | fail
  refine o_call (vs := [.agg #[.int .i64 n, v], vr]) (by exact rfl) (by exact rfl) (fun w h => Joined_ok n v es vr hr0 R o lab w hs (ro_old h hr) hG (ros_old h hRs) hRot hL (hp ▸ planeIs_ok hs (ro_old h hr) hG (ros_old h hRs) hRot hL) (by omega) (by omega) es' hm1) ?_
  rintro _ _ ⟨vh, vo, ho, rfl, hol, rfl⟩
  refine know_row (v := vh) (.head _) fun hvh _ => ?_
  have hone : ∀ u ∈ [Value.int .i64 n, vh], u.oneCell' = true := by
    intro u hu
    simp only [List.mem_cons, List.not_mem_nil, or_false] at hu
    rcases hu with rfl | rfl
    · rfl
    · exact hvh.one
  repeat' first
    | refine s_move (by exact rfl) (by exact rfl) ?_ | refine s_extract (by exact rfl) (by exact rfl) (by exact rfl) ?_ | refine o_alloc (by exact rfl) (fun b => ?_) | fail
  revert b; intro b5
  refine o_stk_box (i := 0) (us := [.int .i64 n, vh]) (by exact rfl) (by exact rfl) (by exact rfl) (by exact rfl) (by exact rfl) hone (by simp [Value.cells]) ?_
  have hz : putL (Value.agg #[.int .i64 0, .slice none 0 0]).cells.toList 0 [.int .i64 n, vh] = [.int .i64 n, vh] := by simp [Value.cells, putL]
  have hvc : (Value.agg #[.int .i64 n, v]).cells.toList = [.int .i64 n, v] := by simp [Value.cells, one_cells hs.one]
  rw [hz, hvc]
  repeat' first
    | refine k_then ?_ | refine c_seq ?_ | refine c_region ?_ | refine s_nil ?_ | refine s_move (by exact rfl) (by exact rfl) ?_ | refine s_assign (by exact rfl) (by exact rfl) ?_ | refine s_neq (by exact rfl) (by exact rfl) (by exact rfl) ?_ | (refine g_case (by exact rfl) (by exact rfl) (fun h => ?_) (fun h => ?_) <;> try (exfalso; omega)) | refine w_move (by exact rfl) (by exact rfl) (by exact rfl) (by exact rfl) ?_ | refine w_ldk_box (by exact rfl) (by exact rfl) (by exact rfl) (by exact rfl) (by exact .head _) (by exact rfl) (by exact rfl) ?_ | refine g_on (by exact rfl) (by exact rfl) ?_ | fail
  refine s_call (vs := [.agg #[.int .i64 n, vh], vo]) (by exact rfl) (by exact rfl) (fun w h => refPlane_ok n vh es' vo ho (joinRF R (joinsL n.toNat lab)) o' lab' w hvh (ro_own h (by exact .tail _ (.head _))) hG' (ros_own h (by exact .tail _ (.tail _ (.head _))) hAl.symm (by exact .tail _ (.tail _ (.tail _ (.head _))))) hRot' hL') ?_
  rw [hp']
  repeat' first
    | refine k_then ?_ | refine c_seq ?_ | refine c_region ?_ | refine s_nil ?_ | refine s_move (by exact rfl) (by exact rfl) ?_ | refine s_pick_f (by exact rfl) (by exact rfl) (by exact rfl) ?_ | refine s_ldk_box (by exact rfl) (by exact rfl) (by exact .tail _ (.tail _ (.tail _ (.tail _ (.head _))))) (by exact rfl) (by exact rfl) ?_ | refine c_skip ?_ | (refine c_cond_p (by exact rfl) (fun h => ?_) (fun h => ?_) <;> try (exfalso; omega)) | (refine g_case (by exact rfl) (by exact rfl) (fun h => ?_) (fun h => ?_) <;> try (exfalso; omega)) | refine w_fa (by exact rfl) (by exact rfl) (by exact rfl) (by exact rfl) ?_ | refine w_ld_box (by exact rfl) (by exact rfl) (by exact rfl) (by exact rfl) (by first | exact .head _ | exact .tail _ (.tail _ (.tail _ (.tail _ (.head _))))) (by exact rfl) ?_ | refine w_neq (by exact rfl) (by exact rfl) (by exact rfl) (by exact rfl) (by exact rfl) ?_ | fail
  refine o_call (vs := [.agg #[.int .i64 n, v]]) (by exact rfl) (by exact rfl) (fun w h => refComps_ok n v es o lab w hs (ro_old h hr) hG hL) ?_
  rintro vc _ ⟨hc, hcl, rfl⟩
  refine know_row (v := vc) (.head _) fun hvc2 _ => ?_
  generalize hreg : Code.seq (Code.region 7 _ _) _ = c7
  repeat' first
    | refine k_then ?_ | refine c_seq ?_ | refine s_nil ?_ | refine s_assign (by exact rfl) (by exact rfl) ?_ | refine s_len (by exact rfl) (by exact rfl) (by assumption) ?_ | fail
  refine c_join (X := Unit) (fun _ => [(2, .pointer (some ⟨bg, 0, none⟩)), (5, .pointer (some ⟨b5, 0, none⟩))]) (fun _ => [boxHP b5 24 [.int .i64 n, vh], rowHP vh 40 3 es'.length (esV es'), boxHP bg 24 [.int .i64 n, v]]) (fun K hk => ?_) ?_
  · subst hreg
    by_cases h0 : 0 < n
    · have hc1 := hone' (by omega)
      have hc2 := hpos (by omega)
      repeat' first
        | refine c_seq ?_ | refine c_region ?_ | refine s_move (by exact rfl) (by exact rfl) ?_ | refine s_fa (by exact rfl) (by exact rfl) ?_ | refine s_ld_box (by exact rfl) (by exact rfl) (by exact .tail _ (.tail _ (.tail _ (.tail _ (.tail _ (.tail _ (.head _))))))) (by exact rfl) ?_ | refine s_gtr (by exact rfl) (by exact rfl) (by exact rfl) ?_ | (refine g_case (by exact rfl) (by exact rfl) (fun h => ?_) (fun h => ?_) <;> try (exfalso; omega)) | refine w_ldk_box (by exact rfl) (by exact rfl) (by exact rfl) (by exact rfl) (by exact .tail _ (.tail _ (.head _))) (by exact rfl) (by exact rfl) ?_ | refine g_on (by exact rfl) (by exact rfl) ?_ | fail
      refine o_call (vs := [.agg #[.int .i64 n, vh]]) (by exact rfl) (by exact rfl) (fun w h => refComps_ok n vh es' o' lab' w hvh (ro_own h (by exact .tail _ (.tail _ (.tail _ (.head _))))) hG' hL') ?_
      rintro vc2 _ ⟨hcc, hccl, rfl⟩
      refine know_row (v := vc2) (.head _) fun hvc3 _ => ?_
      rw [hc1] at hvc3 ⊢
      repeat' first
        | refine k_then ?_ | refine s_nil ?_ | refine s_pick_t (by exact rfl) (by exact rfl) (by exact rfl) ?_ | refine c_skip ?_ | (refine c_cond_p (by exact rfl) (fun h => ?_) (fun h => ?_) <;> try (exfalso; omega)) | (refine g_case (by exact rfl) (by exact rfl) (fun h => ?_) (fun h => ?_) <;> try (exfalso; omega)) | refine w_move (by exact rfl) (by exact rfl) (by exact rfl) (by exact rfl) ?_ | refine w_fa (by exact rfl) (by exact rfl) (by exact rfl) (by exact rfl) ?_ | refine w_ld_box (by exact rfl) (by exact rfl) (by exact rfl) (by exact rfl) (by first | exact .tail _ (.tail _ (.tail _ (.tail _ (.head _)))) | exact .tail _ (.tail _ (.tail _ (.tail _ (.tail _ (.tail _ (.tail _ (.tail _ (.head _))))))))) (by exact rfl) ?_ | refine w_neq (by exact rfl) (by exact rfl) (by exact rfl) (by exact rfl) (by exact rfl) ?_ | refine w_add (by exact rfl) (by exact rfl) (by exact rfl) (by exact rfl) (by exact rfl) (by omega) ?_ | refine w_sub (by exact rfl) (by exact rfl) (by exact rfl) (by exact rfl) (by exact rfl) (by omega) ?_ | refine w_len (by exact rfl) (by exact rfl) (by exact rfl) (by exact rfl) (by assumption) ?_ | refine w_pick_f (by exact rfl) (by exact rfl) (by exact rfl) (by exact rfl) (by exact rfl) ?_ | fail
      exact j_end hk () [4, 4, 6] (by exact rfl) ⟨rfl, rfl, trivial⟩
    · repeat' first
        | refine k_then ?_ | refine c_seq ?_ | refine c_region ?_ | refine s_nil ?_ | refine s_move (by exact rfl) (by exact rfl) ?_ | refine s_fa (by exact rfl) (by exact rfl) ?_ | refine s_ld_box (by exact rfl) (by exact rfl) (by exact .tail _ (.tail _ (.tail _ (.tail _ (.tail _ (.tail _ (.head _))))))) (by exact rfl) ?_ | refine s_gtr (by exact rfl) (by exact rfl) (by exact rfl) ?_ | refine s_pick_f (by exact rfl) (by exact rfl) (by exact rfl) ?_ | refine c_skip ?_ | refine c_cond_f (by exact rfl) ?_ | (refine g_case (by exact rfl) (by exact rfl) (fun h => ?_) (fun h => ?_) <;> try (exfalso; omega)) | refine g_skip (by exact rfl) (by exact rfl) (by exact rfl) (by exact rfl) ?_ | fail
      exact j_end hk () [2, 2, 4] (by exact rfl) ⟨rfl, rfl, trivial⟩
  rintro ⟨⟩
  repeat' first
    | refine k_then ?_ | refine c_seq ?_ | refine c_region ?_ | refine s_nil ?_ | refine s_assign (by exact rfl) (by exact rfl) ?_ | refine c_block ?_ | fail
  refine c_loop (fun k : Nat => k ≤ es.length) (fun k => [(2, .pointer (some ⟨bg, 0, none⟩)), (5, .pointer (some ⟨b5, 0, none⟩)), (9, .int .i64 (k : Int))]) (fun _ => _) (fun k => es.length - k) 0 (List.replicate _ 0) (Nat.zero_le _) (pick_id _) ⟨rfl, rfl, rfl, trivial⟩ ?_
  intro k hk
  by_cases hkl : k < es.length
  · obtain ⟨e, he⟩ : ∃ e, es[k]? = some e := ⟨_, List.getElem?_eq_getElem hkl⟩
    obtain ⟨hE0, hE1, hE2⟩ := esV_get he
    have hE := esV_at he
    obtain ⟨q, hq1, hq2⟩ := find_own hG' (hperm.mem_iff.2 (List.mem_append.2 (.inl (List.mem_of_getElem? he))))
    have hql : q < es'.length := (List.getElem?_eq_some_iff.1 hq2).1
    have hF := esV_at hq2
    repeat' first
      | refine k_then ?_ | refine c_seq ?_ | refine c_region ?_ | refine s_nil ?_ | refine s_move (by exact rfl) (by exact rfl) ?_ | refine s_fa (by exact rfl) (by exact rfl) ?_ | refine s_ld_box (by exact rfl) (by exact rfl) (by exact .tail _ (.tail _ (.head _))) (by exact rfl) ?_ | refine s_lss (by exact rfl) (by exact rfl) (by exact rfl) ?_ | refine s_len (by exact rfl) (by exact rfl) (by assumption) ?_ | refine c_block ?_ | refine c_skip ?_ | (refine c_cond_p (by exact rfl) (fun h => ?_) (fun h => ?_) <;> try (exfalso; omega)) | fail
    refine p_begin0 [(0, true), (1, true), (2, true), (3, true), (4, true), (5, true), (6, true), (7, true), (8, true), (9, true), (10, true), (11, true), (12, true), (13, false), (14, true)] (by kernel_rfl) ?_
    repeat' first
      | (refine p_at (by exact rfl) ?_
         first
          | refine t_move (by exact rfl) (by exact rfl) (by exact fun _ h => h) ?_ | refine t_fa (by exact rfl) (by exact rfl) (by exact fun _ h => h) ?_ | refine t_ld_box (by exact rfl) (by exact rfl) (by exact .tail _ (.tail _ (.head _))) (by exact rfl) (by exact fun _ h => h) ?_ | refine t_idx (by exact rfl) (by exact rfl) (by exact rfl) (by assumption) (by first | assumption | omega) (by exact fun _ h => h) ?_ | refine t_fap (by exact rfl) (by exact rfl) (by assumption) (by omega) (by exact fun _ h => h) ?_ | refine t_ldk_box (by exact rfl) (by exact rfl) (by exact .head _) (by exact rfl) (by exact rfl) (by exact fun _ h => h) ?_ | refine t_ld_ro (by exact rfl) (by exact rfl) (by assumption) (by assumption) (by exact fun _ h => h) ?_ | fail)
      | fail
    refine p_call (gd := none) (vs := [.agg #[.int .i64 n, vh], .int .i64 e.1, .int .i64 e.2.1]) (by exact rfl) (by exact rfl) (by exact rfl) (fun w h => Find_ok n vh es' e.1 e.2.1 w hvh (ro_own h (by exact .tail _ (.head _)))) (by exact fun _ h => h) ?_
    rw [hq1]
    repeat' first
      | refine p_nil ?_
      | (refine p_at (by exact rfl) ?_
         first
          | refine t_assign (by exact rfl) (by exact rfl) (by exact fun _ h => h) ?_ | fail)
      | fail
    repeat' first
      | refine k_then ?_ | refine c_seq ?_ | fail
    refine p_begin0 [(0, true), (1, true), (2, true), (3, true), (4, true), (5, true), (6, true), (7, true), (8, true), (9, true), (10, true), (11, true), (12, true), (13, true), (14, true)] (by kernel_rfl) ?_
    repeat' first
      | (refine p_at (by exact rfl) ?_
         first
          | refine t_move (by exact rfl) (by exact rfl) (by exact fun _ h => h) ?_ | refine t_lss (by exact rfl) (by exact rfl) (by exact rfl) (by exact fun _ h => h) ?_ | refine tw_move (by exact rfl) (by exact rfl) (by exact rfl) (by exact rfl) (by exact fun _ h => h) ?_ | refine tw_fa (by exact rfl) (by exact rfl) (by exact rfl) (by exact rfl) (by exact fun _ h => h) ?_ | refine tw_ld_box (by exact rfl) (by exact rfl) (by exact rfl) (by exact rfl) (by first | exact .head _ | exact .tail _ (.tail _ (.head _))) (by exact rfl) (by exact fun _ h => h) ?_ | refine tw_idx (by exact rfl) (by exact rfl) (by exact rfl) (by exact rfl) (by exact rfl) (by assumption) (by first | assumption | omega) (by exact fun _ h => h) ?_ | refine tw_ldk_ro (by exact rfl) (by exact rfl) (by exact rfl) (by exact rfl) (by assumption) (by decide) (by assumption) (by exact rfl) (by exact fun _ h => h) ?_ | refine tw_ldk_row (by exact rfl) (by exact rfl) (by exact rfl) (by exact rfl) (by exact .tail _ (.head _)) (by decide) (by assumption) (by exact rfl) (by exact fun _ h => h) ?_ | (refine t_case (by exact rfl) (by exact rfl) (fun h => ?_) (fun h => ?_) <;> try (exfalso; omega)) | fail)
      | fail
    refine p_at (by exact rfl) ?_
    refine tw_neq3 (by exact rfl) (by exact rfl) (by exact rfl) (by exact rfl) (by exact rfl) (by exact fun _ h => h) ?_
    rw [show (!decide (e.1 = e.1 ∧ e.2.1 = e.2.1 ∧ e.2.2 = e.2.2)) = false by simp]
    repeat' first
      | refine p_nil ?_
      | (refine p_at (by exact rfl) ?_
         first
          | refine t_pick_f (by exact rfl) (by exact rfl) (by exact rfl) (by exact fun _ h => h) ?_ | fail)
      | fail
    repeat' first
      | refine k_then ?_ | refine c_region ?_ | refine s_nil ?_ | refine s_move (by exact rfl) (by exact rfl) ?_ | refine s_assign (by exact rfl) (by exact rfl) ?_ | refine s_add (by exact rfl) (by exact rfl) (by exact rfl) (by omega) ?_ | refine c_skip ?_ | refine k_blk ?_ | refine c_cond_f (by exact rfl) ?_ | fail
    refine c_round (k + 1) (List.replicate _ 0) (pick_id _) ⟨rfl, rfl, rfl, trivial⟩ (by omega) (by omega)
  · repeat' first
      | refine k_then ?_ | refine c_seq ?_ | refine c_region ?_ | refine s_nil ?_ | refine s_move (by exact rfl) (by exact rfl) ?_ | refine s_fa (by exact rfl) (by exact rfl) ?_ | refine s_ld_box (by exact rfl) (by exact rfl) (by exact .tail _ (.tail _ (.head _))) (by exact rfl) ?_ | refine s_lss (by exact rfl) (by exact rfl) (by exact rfl) ?_ | refine s_len (by exact rfl) (by exact rfl) (by assumption) ?_ | refine c_exit ?_ | refine k_then_exit ?_ | refine k_blk_eq ?_ | (refine c_cond_p (by exact rfl) (fun h => ?_) (fun h => ?_) <;> try (exfalso; omega)) | fail
    refine s_call (vs := []) (by exact rfl) (by exact rfl) (fun w h => alive10_ok w) ?_
    repeat' first
      | refine k_then ?_ | refine s_nil ?_ | refine s_assign (by exact rfl) (by exact rfl) ?_ | refine c_ret ?_ | fail
    refine ret1 [] rfl rfl (by exact rfl) ⟨rfl, rfl⟩
end Go.Proofs.YtpajjnkmaebhcaaGreat
end
section
namespace Go.Proofs.YtpajjnkmaebhcaaGreat
open Go.ChangeShapes Go.WideShapes Go.ChangeAt Go.RowKit Go.Joins Go.Deep Go.Sl Fil
set_option maxRecDepth 100000
set_option linter.unusedVariables false
set_option linter.unusedSimpArgs false
theorem row_own : ownKnob Tryz.prog.godebug = none := by kernel_rfl
theorem row_laid : laidOutB Tryz.prog = true := by kernel_rfl
theorem cells_graph : Tryz.prog.cellsOf 24 = 2 := by kernel_rfl
theorem cells_edge : Tryz.prog.cellsOf 40 = 3 := by kernel_rfl
theorem cells_int : Tryz.prog.cellsOf 3 = 1 := by kernel_rfl
section
variable {H : Type} {enc : TypeId × Value → H}
theorem slice_spot {P : Program} {w : World} {r : Reach} {base : Nat} {t e : TypeId} {a : Addr} {len cap : Nat} (hu : P.underlying t = some (.slice e)) (h : Cell.okWide P w r base t (.slice (some a) len cap)) : a.spot = none := by
  simp only [Cell.okWide, hu, Cell.ok, World.has] at h
  exact h.2.2.2.1
theorem es_list {n : Nat} {f : Nat → Nat → Value} (h : ∀ i, i < n → ∃ a b c, f i 0 = .int .i64 a ∧ f i 1 = .int .i64 b ∧ f i 2 = .int .i64 c) : ∃ es : List E, es.length = n ∧ ∀ (i : Nat) j u, i < n → j < 3 → (esV es)[i * 3 + j]? = some u → u = f i j := by
  induction n with
  | zero => exact ⟨[], rfl, fun i j u hi => by omega⟩
  | succ n ih =>
    obtain ⟨es, h1, h2⟩ := ih fun i hi => h i (by omega)
    obtain ⟨a, b, c, ha, hb, hc⟩ := h n (by omega)
    refine ⟨es ++ [(a, b, c)], by simp [h1], fun i j u hi hj hu => ?_⟩
    rw [esV_snoc] at hu
    have hl := esV_length es
    by_cases hin : i < n
    · rw [List.getElem?_append_left (by omega)] at hu
      exact h2 i j u hin hj hu
    · obtain rfl : i = n := by omega
      rw [List.getElem?_append_right (by omega), show i * 3 + j - (esV es).length = j from by omega] at hu
      match j, hj with
      | 0, _ => simp [eV] at hu; rw [← hu, ha]
      | 1, _ => simp [eV] at hu; rw [← hu, hb]
      | 2, _ => simp [eV] at hu; rw [← hu, hc]
theorem open_edges {W : World} {base fuel : Nat} {v : Value} {y : DataW H × List MemPlace} (hv : Cell.okWide Tryz.prog W .any base 22 v) (h : DataW.trod enc Tryz.prog W 0 (fun _ => true) true fuel 22 [v] = some y) :
    ∃ es : List E, Shp v es.length ∧ RO W No v (esV es) := by
  rcases open_slice Tryz.underlying22 h with ⟨hcs, _⟩ | ⟨a, len, cap, m, n, D, Pl, hcs, _, hl, hm, hmm, _, hx⟩
  · simp only [List.cons.injEq, and_true] at hcs
    subst hcs
    exact ⟨[], ⟨by simp [maxLen], .inl ⟨rfl, rfl⟩⟩, RO.of_rd fun j u hj => by simp [esV] at hj⟩
  · simp only [List.cons.injEq, and_true] at hcs
    subst hcs
    have hsp := slice_spot Tryz.underlying22 hv
    obtain ⟨g, off, sp⟩ := a
    dsimp only at hsp
    subst hsp
    simp only [if_true] at hmm
    subst hmm
    have key : ∀ i, i < len → ∃ a b c, W.cell? ⟨g, off + (i * 3 + 0), none⟩ = some (.int .i64 a) ∧ W.cell? ⟨g, off + (i * 3 + 1), none⟩ = some (.int .i64 b) ∧ W.cell? ⟨g, off + (i * 3 + 2), none⟩ = some (.int .i64 c) := by
      intro i hi
      obtain ⟨cs, h1, h2⟩ := hx i (by omega)
      rw [cells_edge] at h1
      obtain ⟨_, hlen, hc⟩ := World.cells?_some h1
      obtain ⟨y0, y1, y2, k, _, _, t0, t1, t2⟩ := trod_struct3 Tryz.underlying40 h2
      obtain ⟨a, e0, -, -⟩ := DataW.trod_int Tryz.underlying3 t0
      obtain ⟨b, e1, -, -⟩ := DataW.trod_int Tryz.underlying3 t1
      obtain ⟨c, e2, -, -⟩ := DataW.trod_int Tryz.underlying2 t2
      match cs, hlen, hc, e0, e1, e2 with
      | [x0, x1, x2], _, hc, e0, e1, e2 =>
        have c0 := hc 0 (by omega)
        have c1 := hc 1 (by omega)
        have c2 := hc 2 (by omega)
        have f0 : x0 = .int .i64 a := by
          have : [x0] = [.int .i64 a] := e0
          simpa using this
        have f1 : x1 = .int .i64 b := by
          have : [x1] = [.int .i64 b] := e1
          simpa using this
        have f2 : x2 = .int .i64 c := by
          have : [x2] = [.int .i64 c] := e2
          simpa using this
        subst f0 f1 f2
        refine ⟨a, b, c, ?_, ?_, ?_⟩
        · rw [Deep.add_add] at c0
          rw [show (⟨g, off + (i * 3 + 0), none⟩ : Addr) = (⟨g, off, none⟩ : Addr).add (i * 3 + 0) from by simp [Addr.add]]
          exact c0
        · rw [Deep.add_add] at c1
          rw [show (⟨g, off + (i * 3 + 1), none⟩ : Addr) = (⟨g, off, none⟩ : Addr).add (i * 3 + 1) from by simp [Addr.add]]
          exact c1
        · rw [Deep.add_add] at c2
          rw [show (⟨g, off + (i * 3 + 2), none⟩ : Addr) = (⟨g, off, none⟩ : Addr).add (i * 3 + 2) from by simp [Addr.add]]
          exact c2
    obtain ⟨es, he1, he2⟩ := es_list (n := len) (f := fun i j => (W.cell? ⟨g, off + (i * 3 + j), none⟩).getD undef) (fun i hi => by
      obtain ⟨a, b, c, h0, h1, h2⟩ := key i hi
      exact ⟨a, b, c, congrArg (fun x => Option.getD x undef) h0, congrArg (fun x => Option.getD x undef) h1, congrArg (fun x => Option.getD x undef) h2⟩)
    subst he1
    refine ⟨es, ⟨by omega, .inr (.inl ⟨g, off, m, rfl, hl, hm⟩)⟩, RO.of_rd fun j u hj => ⟨g, off, es.length, m, rfl, ?_⟩⟩
    have hlt := (List.getElem?_eq_some_iff.1 hj).1
    rw [esV_length] at hlt
    have hd : j / 3 * 3 + j % 3 = j := by omega
    have hu := he2 (j / 3) (j % 3) u (by omega) (by omega) (by rw [hd]; exact hj)
    rw [hd] at hu
    obtain ⟨a, b, c, h0, h1, h2⟩ := key (j / 3) (by omega)
    have hex : ∃ x, W.cell? ⟨g, off + j, none⟩ = some x := by
      have : j % 3 = 0 ∨ j % 3 = 1 ∨ j % 3 = 2 := by omega
      rcases this with h | h | h
      · exact ⟨_, by rw [← hd, h]; exact h0⟩
      · exact ⟨_, by rw [← hd, h]; exact h1⟩
      · exact ⟨_, by rw [← hd, h]; exact h2⟩
    obtain ⟨x, hx⟩ := hex
    rw [hx] at hu ⊢
    rw [hu]
    rfl
theorem open_graph {W : World} {base : Nat} {v : Value} {d : DataW H} {p : List MemPlace} (hv : Value.okWide Tryz.prog W .any base 24 v) (h : DataW.Trod enc Tryz.prog W 0 (fun _ => true) true 24 v d p) :
    ∃ (n : Int) (u : Value) (es : List E), v = .agg #[.int .i64 n, u] ∧ Shp u es.length ∧ RO W No u (esV es) := by
  obtain ⟨c0, c1, y0, y1, m, rfl, -, -, hy0, hy1⟩ := open_agg2 Tryz.underlying24 (by kernel_rfl) cells_graph hv h
  obtain ⟨a, e0, -, -⟩ := DataW.trod_int Tryz.underlying3 hy0
  simp only [List.cons.injEq, and_true] at e0
  subst e0
  have hc : Cell.okWide Tryz.prog W .any base 22 c1 := by
    simp only [Value.okWide, Tryz.underlying24] at hv
    obtain ⟨cs, hcs, _, ts, hts, _, hall⟩ := hv
    obtain rfl : cs = #[.int .i64 a, c1] := by simpa using hcs.symm
    have e : Tryz.prog.cellTypes Tryz.prog.depth 24 = some [3, 22] := by kernel_rfl
    rw [e] at hts
    obtain rfl : [3, 22] = ts := by simpa using hts
    obtain ⟨u, hu, hok⟩ := hall 1 c1 rfl
    obtain rfl : 22 = u := by simpa using hu
    exact hok
  obtain ⟨es, h1, h2⟩ := open_edges hc hy1
  exact ⟨a, c1, es, rfl, h1, h2⟩
end
end Go.Proofs.YtpajjnkmaebhcaaGreat
end
section
namespace Go.Proofs.YtpajjnkmaebhcaaGreat
open Go.ChangeShapes Go.WideShapes Go.ChangeAt Go.RowKit Go.Joins Go.Deep Go.Sl Fil
set_option maxRecDepth 100000
set_option linter.unusedVariables false
set_option linter.unusedSimpArgs false
section
variable {H : Type} {enc : TypeId × Value → H}
theorem pick_lists {n : Nat} {P : Nat → Value → List Int → Prop} (h : ∀ i, i < n → ∃ x l, P i x l) : ∃ (hs : List Value) (ls : List (List Int)), hs.length = n ∧ ls.length = n ∧ ∀ (i : Nat) x l, hs[i]? = some x → ls[i]? = some l → P i x l := by
  induction n with
  | zero => exact ⟨[], [], rfl, rfl, fun i x l h => by simp at h⟩
  | succ n ih =>
    obtain ⟨hs, ls, h1, h2, h3⟩ := ih fun i hi => h i (by omega)
    obtain ⟨x, l, hp⟩ := h n (by omega)
    refine ⟨hs ++ [x], ls ++ [l], by simp [h1], by simp [h2], fun i y m hy hm => ?_⟩
    by_cases hi : i < n
    · rw [List.getElem?_append_left (by omega)] at hy hm
      exact h3 i y m hy hm
    · have hb := (List.getElem?_eq_some_iff.1 hy).1
      simp only [List.length_append, List.length_cons, List.length_nil] at hb
      obtain rfl : i = n := by omega
      rw [List.getElem?_append_right (by omega), show i - hs.length = 0 by omega] at hy
      rw [List.getElem?_append_right (by omega), show i - ls.length = 0 by omega] at hm
      simp at hy hm
      subst hy hm
      exact hp
theorem weights_all {P : Program} {e : TypeId} : ∀ {l : List (DataW H)} {d : DataW H}, d ∈ l → ∀ n ∈ d.weights P e, n ∈ DataW.weightsAll P e l
  | x :: l, d, h, n, hn => by
    rw [DataW.weightsAll]
    rcases List.mem_cons.1 h with rfl | h
    · exact List.mem_append.2 (.inl hn)
    · exact List.mem_append.2 (.inr (weights_all h n hn))
theorem okc_rows {W : World} {base : Nat} {v x : Value} (hc : Cell.okWide Tryz.prog W .any base 25 v) (h : v.cells.toList = [x]) : v = x := by
  cases v with
  | agg cs => simp [Cell.okWide, Tryz.underlying25, Cell.ok] at hc
  | _ => simpa [Value.cells] using h
theorem open_rows {W : World} {base : Nat} {v : Value} {d : DataW H} {p : List MemPlace} (hv : Value.okWide Tryz.prog W .any base 25 v) (h : DataW.Trod enc Tryz.prog W 0 (fun _ => true) true 25 v d p) (hz : ∀ n ∈ d.weights Tryz.prog 25, n ≤ reachBytes) :
    ∃ (hs : List Value) (ls : List (List Int)), ROsI W No v hs ls ∧ ∀ l ∈ ls, l.length ≤ 17592186044416 := by
  obtain ⟨fuel, hf⟩ := h
  have hc : Cell.okWide Tryz.prog W .any base 25 v := by
    simp only [Value.okWide, Tryz.underlying25] at hv
    exact hv
  rcases open_slice1 Tryz.underlying25 (by kernel_rfl) hf with ⟨hcs, _⟩ | ⟨a, len, cap, m, n, V, D, Pl, hcs, _, hl, hm, hmm, hxd, hx⟩
  · have hv0 : v = .slice none 0 0 := okc_rows hc hcs
    subst hv0
    exact ⟨[], [], ⟨⟨by simp [maxLen], .inl ⟨rfl, rfl⟩⟩, rfl, RO.of_rd fun j u hj => by simp at hj, fun i x l hi => by simp at hi⟩, by simp⟩
  · have hv0 : v = .slice (some a) len cap := okc_rows hc hcs
    subst hv0
    have hsp := slice_spot Tryz.underlying25 hc
    obtain ⟨g, off, sp⟩ := a
    dsimp only at hsp
    subst hsp
    rw [if_pos rfl] at hmm
    subst hmm
    obtain ⟨hs, ls, h1, h2, h3⟩ := pick_lists (n := len) (P := fun i x l => W.cell? ⟨g, off + i, none⟩ = some x ∧ (Shp x l.length ∧ RO W No x (iV l)) ∧ l.length ≤ 17592186044416) fun i hi => by
      obtain ⟨c1, c2⟩ := hx i (by omega)
      rw [show (⟨g, off, none⟩ : Addr).add i = ⟨g, off + i, none⟩ from by simp [Addr.add]] at c1
      rcases open_ints Tryz.underlying41 Tryz.underlying3 cells_int c2 with ⟨e, _⟩ | ⟨a', len', cap', zs, e, _, hl', hm', hzl, hdd, hx', _⟩
      · obtain e : V i = .slice none 0 0 := by simpa using e
        rw [e] at c1
        exact ⟨_, [], c1, ⟨⟨by simp [maxLen], .inl ⟨rfl, rfl⟩⟩, RO.of_rd fun j u hj => by simp [iV] at hj⟩, by simp⟩
      · obtain e : V i = .slice (some a') len' cap' := by simpa using e
        rw [e] at c1
        rw [if_pos rfl] at hzl
        by_cases h0 : cap' = 0
        · obtain rfl : len' = 0 := by omega
          subst h0
          exact ⟨_, [], c1, ⟨⟨by simp [maxLen], .inr (.inr ⟨⟨_, rfl⟩, rfl⟩)⟩, RO.of_rd fun j u hj => by simp [iV] at hj⟩, by simp⟩
        · have hsp := World.cell?_spot (hx' 0 (by omega))
          obtain ⟨g', off', sp'⟩ := a'
          obtain rfl : sp' = none := by simpa [Addr.add] using hsp
          have htl : (zs.take len').length = len' := by rw [List.length_take]; omega
          have hzz : len' ≤ 17592186044416 := by
            have e1 : D i = .slice (lits .i64 (zs.take len')) (lits .i64 (zs.drop len')) := congrArg Prod.fst hdd
            have e2 : (8 : Nat) = Tryz.prog.bytesOf 3 := by kernel_rfl
            have h5 : (zs.length * 8) ∈ (D i).weights Tryz.prog 41 := by
              rw [e1, DataW.weights, Tryz.underlying41]
              refine List.mem_cons.2 (.inl ?_)
              rw [← e2]
              simp [lits]
              omega
            have h6 : (D i) ∈ (List.range len).map D := List.mem_map.2 ⟨i, List.mem_range.2 hi, rfl⟩
            have h7 := hz _ (by
              rw [show d = _ from congrArg Prod.fst hxd, DataW.weights, Tryz.underlying25]
              exact List.mem_cons.2 (.inr (List.mem_append.2 (.inl (weights_all h6 _ h5)))))
            simp only [reachBytes] at h7
            omega
          refine ⟨_, zs.take len', c1, ⟨⟨by rw [htl]; omega, .inr (.inl ⟨g', off', cap', by rw [htl], by rw [htl]; exact hl', hm'⟩)⟩, RO.of_rd fun j u hj => ⟨g', off', len', cap', rfl, ?_⟩⟩, by rw [htl]; exact hzz⟩
          have hlt := (List.getElem?_eq_some_iff.1 hj).1
          simp only [iV, List.length_map, htl] at hlt
          have h2 := hx' j (by omega)
          rw [show (⟨g', off', none⟩ : Addr).add j = ⟨g', off' + j, none⟩ from by simp [Addr.add]] at h2
          rw [h2, ← hj]
          simp only [iV, List.getElem?_map, List.getElem?_take, if_pos hlt]
          rw [List.getD_eq_getElem?_getD, List.getElem?_eq_getElem (by omega)]
          rfl
    refine ⟨hs, ls, ⟨⟨by rw [h2]; omega, .inr (.inl ⟨g, off, m, by rw [h2], by rw [h2]; exact hl, hm⟩)⟩, by omega, RO.of_rd fun j u hj => ⟨g, off, len, m, rfl, ?_⟩, fun i x l hi hli => (h3 i x l hi hli).2.1⟩, fun l hl => ?_⟩
    rotate_left
    · obtain ⟨i, hi⟩ := List.getElem?_of_mem hl
      have hb := (List.getElem?_eq_some_iff.1 hi).1
      exact (h3 i _ l (List.getElem?_eq_getElem (show i < hs.length by omega)) hi).2.2
    have hlt := (List.getElem?_eq_some_iff.1 hj).1
    obtain ⟨l, hl2⟩ : ∃ l, ls[j]? = some l := ⟨_, List.getElem?_eq_getElem (by omega)⟩
    exact (h3 j u l hj hl2).1
end
end Go.Proofs.YtpajjnkmaebhcaaGreat
end
