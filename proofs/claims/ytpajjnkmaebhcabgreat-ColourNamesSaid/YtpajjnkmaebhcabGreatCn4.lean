/- Of ColourNames: part 4: what the walks rest on, contracts of functions and plain lemmas; no condition but those that each states. -/
import Derived.Test.YtpajjnkmaebhcabGreatCn3
import Derived.DeepKeys4
import Derived.ProofKit
set_option linter.unusedVariables false
set_option linter.unusedSimpArgs false
section
set_option linter.unusedVariables false
namespace Fil
/-- what is left: the neighbours, who is there -/
structure Left (R : Nat → List Nat) (N : Nat) (A : Nat → List Nat) (al : Nat → Bool) : Prop where
  sym : ∀ u w, al u = true → w ∈ A u → al w = true ∧ w ≠ u ∧ u ∈ A w
  nd : ∀ u, al u = true → (A u).Nodup
  lt : ∀ u, al u = true → u < N
  br : ∃ br : Nat → List Nat, (∀ u, al u = true → br u ≠ [] ∧ Con R (br u) ∧ (br u).Nodup ∧ ∀ v ∈ br u, v < N) ∧ (∀ u w, al u = true → al w = true → u ≠ w → ∀ v ∈ br u, v ∉ br w) ∧ ∀ u w, al u = true → w ∈ A u → ∃ x ∈ br u, ∃ y ∈ br w, y ∈ R x
/-- a system in the plane -/
structure Flat (R : Nat → List Nat) (N : Nat) : Prop where
  sys : ∃ l, Sys l R
  lt : ∀ v, ∀ u ∈ R v, u < N ∧ v < N
  comp : ∀ v, v < N → ∃ c : List Nat, v ∈ c ∧ c.Nodup ∧ (∀ x ∈ c, x < N) ∧ (∀ x ∈ c, ∀ u ∈ R x, u ∈ c) ∧ Con R c ∧ (2 ≤ c.length → (∀ x ∈ c, R x ≠ []) ∧ ∃ l, Sys l R ∧ ∃ F, Dec (nxt R) (dartsOf R c) F ∧ F.length + c.length = (l.filter fun e => decide (e.1 ∈ c)).length + 2)
variable {R : Nat → List Nat} {N : Nat} {A : Nat → List Nat} {al : Nat → Bool}
theorem shut_con {c B : List Nat} (hsh : ∀ x ∈ c, ∀ u ∈ R x, u ∈ c) (hsym : ∀ u v, u ∈ R v → v ∈ R u) (hB : Con R B) {x : Nat} (hx : x ∈ B) (hc : x ∈ c) : ∀ y ∈ B, y ∈ c := fun y hy => by
  have h := hB (fun v => decide (v ∈ c)) (fun u hu v hv huv => by
    by_cases h1 : v ∈ c
    · simp [h1, hsh v h1 u huv]
    · by_cases h2 : u ∈ c
      · exact absurd (hsh u h2 v (hsym _ _ huv)) h1
      · simp [h1, h2]) y hy x hx
  simpa [hc] using h
/-- some of those that are there, of one component -/
theorem Left.some (hF : Flat R N) (h : Left R N A al) {us : List Nat} (hun : us.Nodup) {u0 : Nat} (hu0 : u0 ∈ us) (hal : ∀ u ∈ us, al u = true) {B : Nat → List Nat} (hBA : ∀ u ∈ us, ∀ w ∈ B u, w ∈ A u) (hBn : ∀ u ∈ us, (B u).Nodup) (hBs : ∀ u ∈ us, ∀ w ∈ B u, w ∈ us ∧ u ∈ B w) {d : Nat} (hd2 : 2 ≤ d) (hd : ∀ u ∈ us, d ≤ (B u).length) :
    ∃ vs : List Nat, vs ≠ [] ∧ (∀ v ∈ vs, v ∈ us) ∧ vs.Nodup ∧ u0 ∈ vs ∧ (∀ v ∈ vs, ∀ w ∈ B v, w ∈ vs) ∧ d * vs.length + 12 ≤ 6 * vs.length := by
  obtain ⟨br, b1, b2, b3⟩ := h.br
  obtain ⟨l0, hS0⟩ := hF.sys
  have hsym : ∀ u v, u ∈ R v → v ∈ R u := fun u v h => hS0.sym h
  obtain ⟨x0, hx0⟩ := List.exists_mem_of_ne_nil _ (b1 u0 (hal u0 hu0)).1
  obtain ⟨c, c1, c2, c3, c4, c5, c6⟩ := hF.comp x0 ((b1 u0 (hal u0 hu0)).2.2.2 x0 hx0)
  let vs := us.filter fun u => decide (∃ x ∈ br u, x ∈ c)
  have hvs : ∀ u, u ∈ vs ↔ u ∈ us ∧ ∃ x ∈ br u, x ∈ c := fun u => by
    show u ∈ us.filter _ ↔ _
    rw [List.mem_filter, decide_eq_true_eq]
  have hin : ∀ u ∈ vs, ∀ y ∈ br u, y ∈ c := fun u hu => by
    obtain ⟨h1, x, hx, hxc⟩ := (hvs u).1 hu
    exact shut_con c4 hsym (b1 u (hal u h1)).2.1 hx hxc
  have hu0v : u0 ∈ vs := (hvs u0).2 ⟨hu0, x0, hx0, c1⟩
  have hsh : ∀ v ∈ vs, ∀ w ∈ B v, w ∈ vs := fun v hv w hw => by
    obtain ⟨h1, _⟩ := (hvs v).1 hv
    obtain ⟨x, hx, y, hy, hxy⟩ := b3 v w (hal v h1) (hBA v h1 w hw)
    exact (hvs w).2 ⟨(hBs v h1 w hw).1, y, hy, c4 x (hin v hv x hx) y hxy⟩
  have hc2 : 2 ≤ c.length := by
    have h2 := hd u0 hu0
    obtain ⟨w, hw⟩ : ∃ w, w ∈ B u0 := by
      cases hb : B u0 with
      | nil => rw [hb] at h2; simp at h2; omega
      | cons a t => exact ⟨a, .head _⟩
    obtain ⟨x, hx, y, hy, hxy⟩ := b3 u0 w (hal u0 hu0) (hBA u0 hu0 w hw)
    have hxc := hin u0 hu0v x hx
    have hyc := c4 x hxc y hxy
    have hne := hS0.ne hxy
    match c, hxc, hyc with
    | [a], hxc, hyc => simp at hxc hyc; omega
    | a :: b :: t, _, _ => simp
  obtain ⟨hne, l, hS, F, hF1, hF2⟩ := c6 hc2
  refine ⟨vs, List.ne_nil_of_mem hu0v, fun v hv => ((hvs v).1 hv).1, hun.sublist List.filter_sublist, hu0v, hsh, ?_⟩
  refine minor_deg hS c2 c4 hne c5 hF1 hF2 (us := vs) (br := br) (A := B) (hun.sublist List.filter_sublist) (List.ne_nil_of_mem hu0v) ⟨fun u hu => (b1 u (hal u ((hvs u).1 hu).1)).1, fun u hu => (b1 u (hal u ((hvs u).1 hu).1)).2.1, fun u hu => (b1 u (hal u ((hvs u).1 hu).1)).2.2.1, hin, fun u hu w hw huw => b2 u w (hal u ((hvs u).1 hu).1) (hal w ((hvs w).1 hw).1) huw⟩ hd2 (fun u hu => hBn u ((hvs u).1 hu).1) (fun u hu w hw => ?_) (fun u hu => hd u ((hvs u).1 hu).1) fun u hu w hw => b3 u w (hal u ((hvs u).1 hu).1) (hBA u ((hvs u).1 hu).1 w hw)
  have h1 := ((hvs u).1 hu).1
  exact ⟨hsh u hu w hw, (h.sym u w (hal u h1) (hBA u h1 w hw)).2.1, (hBs u h1 w hw).2⟩
/-- one has at most five neighbours -/
theorem Left.five (hF : Flat R N) (h : Left R N A al) {u0 : Nat} (hu0 : al u0 = true) : ∃ u, al u = true ∧ (A u).length ≤ 5 := by
  apply Classical.byContradiction
  intro hno
  have h6 : ∀ u, al u = true → 6 ≤ (A u).length := fun u hu => by
    apply Classical.byContradiction
    intro h2
    exact hno ⟨u, hu, by omega⟩
  have hm : ∀ u, u ∈ (List.range N).filter al ↔ al u = true := fun u => by
    rw [List.mem_filter, List.mem_range]
    exact ⟨fun h => h.2, fun h2 => ⟨h.lt u h2, h2⟩⟩
  obtain ⟨vs, v1, _, _, _, _, v2⟩ := h.some hF (us := (List.range N).filter al) (List.nodup_range.sublist List.filter_sublist) ((hm u0).2 hu0) (fun u hu => (hm u).1 hu) (B := A) (fun _ _ _ h => h) (fun u hu => h.nd u ((hm u).1 hu)) (fun u hu w hw => by
    obtain ⟨a1, a2, a3⟩ := h.sym u w ((hm u).1 hu) hw
    exact ⟨(hm w).2 a1, a3⟩) (d := 6) (by omega) fun u hu => h6 u ((hm u).1 hu)
  omega
/-- of five neighbours two are not next to one another -/
theorem Left.apart (hF : Flat R N) (h : Left R N A al) {v : Nat} (hv : al v = true) {l : List Nat} (hl : ∀ u, u ∈ l ↔ u ∈ A v) (hln : l.Nodup) (h5 : l.length = 5) (hall : ∀ u ∈ l, ∀ w ∈ l, u ≠ w → w ∈ A u) : False := by
  have hvl : v ∉ l := fun hh => (h.sym v v hv ((hl v).1 hh)).2.1 rfl
  have hun : (v :: l).Nodup := List.nodup_cons.2 ⟨hvl, hln⟩
  have hal : ∀ u ∈ v :: l, al u = true := fun u hu => by
    rcases List.mem_cons.1 hu with rfl | hu
    · exact hv
    · exact (h.sym v u hv ((hl u).1 hu)).1
  have hadj : ∀ u ∈ v :: l, ∀ w ∈ v :: l, u ≠ w → w ∈ A u := fun u hu w hw hne => by
    rcases List.mem_cons.1 hu with e1 | hu1
    · rcases List.mem_cons.1 hw with e2 | hw1
      · exact absurd (e1.trans e2.symm) hne
      · rw [e1]; exact (hl w).1 hw1
    · rcases List.mem_cons.1 hw with e2 | hw1
      · rw [e2]; exact (h.sym _ u hv ((hl u).1 hu1)).2.2
      · exact hall u hu1 w hw1 hne
  have hB : ∀ u w, w ∈ (v :: l).erase u ↔ w ∈ v :: l ∧ w ≠ u := fun u w => by
    rw [hun.mem_erase_iff]; exact And.comm
  obtain ⟨vs, v1, v2, v3, v4, v5, v6⟩ := h.some hF (us := v :: l) hun (.head _) hal (B := fun u => (v :: l).erase u) (fun u hu w hw => by
    obtain ⟨a, b⟩ := (hB u w).1 hw
    exact hadj u hu w a (Ne.symm b)) (fun u hu => hun.erase u) (fun u hu w hw => by
    obtain ⟨a, b⟩ := (hB u w).1 hw
    exact ⟨a, (hB w u).2 ⟨hu, Ne.symm b⟩⟩) (d := 5) (by omega) fun u hu => by
      rw [List.length_erase_of_mem hu, List.length_cons, h5]; omega
  have := sub_length v3 v2
  rw [List.length_cons, h5] at this
  omega
/-- a vertex goes -/
theorem Left.leave (h : Left R N A al) {v : Nat} {A' : Nat → List Nat} {al' : Nat → Bool} (hal : ∀ u, al' u = (al u && !decide (u = v))) (hA : ∀ u, al' u = true → (A' u).Nodup ∧ ∀ w, w ∈ A' u ↔ w ∈ A u ∧ w ≠ v) : Left R N A' al' := by
  obtain ⟨br, b1, b2, b3⟩ := h.br
  have hl : ∀ u, al' u = true ↔ al u = true ∧ u ≠ v := fun u => by rw [hal]; simp
  refine ⟨fun u w hu hw => ?_, fun u hu => (hA u hu).1, fun u hu => h.lt u ((hl u).1 hu).1, br, fun u hu => b1 u ((hl u).1 hu).1, fun u w hu hw => b2 u w ((hl u).1 hu).1 ((hl w).1 hw).1, fun u w hu hw => b3 u w ((hl u).1 hu).1 (((hA u hu).2 w).1 hw).1⟩
  obtain ⟨u1, u2⟩ := (hl u).1 hu
  obtain ⟨w1, w2⟩ := ((hA u hu).2 w).1 hw
  obtain ⟨s1, s2, s3⟩ := h.sym u w u1 w1
  have hw' := (hl w).2 ⟨s1, w2⟩
  exact ⟨hw', s2, ((hA w hw').2 u).2 ⟨s3, u2⟩⟩
/-- a vertex goes, and one of its neighbours becomes another one -/
theorem Left.merge (h : Left R N A al) {v a b : Nat} (hv : al v = true) (ha : a ∈ A v) (hb : b ∈ A v) (hab : a ≠ b) (hn : b ∉ A a) {A' : Nat → List Nat} {al' : Nat → Bool} (hal : ∀ u, al' u = (al u && !decide (u = v) && !decide (u = a))) (hA : ∀ u, al' u = true → (A' u).Nodup ∧ ∀ w, w ∈ A' u ↔ (w ∈ A u ∧ w ≠ v ∧ w ≠ a) ∨ (u = b ∧ w ∈ A a ∧ w ≠ v) ∨ (w = b ∧ u ∈ A a)) : Left R N A' al' := by
  obtain ⟨br, b1, b2, b3⟩ := h.br
  have hl : ∀ u, al' u = true ↔ al u = true ∧ u ≠ v ∧ u ≠ a := fun u => by rw [hal]; simp [and_assoc]
  obtain ⟨a1, a2, a3⟩ := h.sym v a hv ha
  obtain ⟨c1, c2, c3⟩ := h.sym v b hv hb
  have hn2 : a ∉ A b := fun hh => hn (h.sym b a c1 hh).2.2
  refine ⟨fun u w hu hw => ?_, fun u hu => (hA u hu).1, fun u hu => h.lt u ((hl u).1 hu).1, fun u => if u = b then br b ++ (br v ++ br a) else br u, fun u hu => ?_, fun u w hu hw huw x hx hx2 => ?_, fun u w hu hw => ?_⟩
  · obtain ⟨u1, u2, u3⟩ := (hl u).1 hu
    rcases ((hA u hu).2 w).1 hw with ⟨w1, w2, w3⟩ | ⟨rfl, w1, w2⟩ | ⟨rfl, w1⟩
    · obtain ⟨s1, s2, s3⟩ := h.sym u w u1 w1
      have hw' := (hl w).2 ⟨s1, w2, w3⟩
      exact ⟨hw', s2, ((hA w hw').2 u).2 (.inl ⟨s3, u2, u3⟩)⟩
    · obtain ⟨s1, s2, s3⟩ := h.sym a w a1 w1
      have hw' := (hl w).2 ⟨s1, w2, s2⟩
      exact ⟨hw', fun e => hn (e ▸ w1), ((hA w hw').2 u).2 (.inr (.inr ⟨rfl, w1⟩))⟩
    · have hw' := (hl w).2 ⟨c1, c2, Ne.symm hab⟩
      exact ⟨hw', fun e => hn (e ▸ w1), ((hA w hw').2 u).2 (.inr (.inl ⟨rfl, w1, u2⟩))⟩
  · obtain ⟨u1, u2, u3⟩ := (hl u).1 hu
    dsimp only
    by_cases e : u = b
    · subst e
      obtain ⟨p1, p2, p3, p4⟩ := b1 u c1
      obtain ⟨q1, q2, q3, q4⟩ := b1 v hv
      obtain ⟨r1, r2, r3, r4⟩ := b1 a a1
      rw [if_pos rfl]
      obtain ⟨x, hx, y, hy, hxy⟩ := b3 a v a1 a3
      obtain ⟨z, hz, t, ht, hzt⟩ := b3 v u hv hb
      have hva : Con R (br v ++ br a) := q2.join r2 hy hx hxy
      refine ⟨by simp [p1], p2.join hva ht (List.mem_append.2 (.inl hz)) hzt, ?_, fun x hx => ?_⟩
      · refine List.nodup_append.2 ⟨p3, List.nodup_append.2 ⟨q3, r3, fun x hx y hy e => ?_⟩, fun x hx y hy e => ?_⟩
        · subst e; exact b2 v a hv a1 (Ne.symm a2) x hx hy
        · subst e
          rcases List.mem_append.1 hy with hy | hy
          · exact b2 u v c1 hv c2 x hx hy
          · exact b2 u a c1 a1 (Ne.symm hab) x hx hy
      · rcases List.mem_append.1 hx with hx | hx
        · exact p4 x hx
        · rcases List.mem_append.1 hx with hx | hx
          · exact q4 x hx
          · exact r4 x hx
    · rw [if_neg e]; exact b1 u u1
  · obtain ⟨u1, u2, u3⟩ := (hl u).1 hu
    obtain ⟨w1, w2, w3⟩ := (hl w).1 hw
    have key : ∀ u w : Nat, al u = true → u ≠ v → u ≠ a → u ≠ b → ∀ x ∈ br u, x ∉ br b ++ (br v ++ br a) := fun u w u1 u2 u3 u4 x hx hh => by
      rcases List.mem_append.1 hh with hh | hh
      · exact b2 u b u1 c1 u4 x hx hh
      · rcases List.mem_append.1 hh with hh | hh
        · exact b2 u v u1 hv u2 x hx hh
        · exact b2 u a u1 a1 u3 x hx hh
    dsimp only at hx hx2
    by_cases e1 : u = b
    · have e2 : w ≠ b := fun e2 => huw (e1.trans e2.symm)
      rw [if_pos e1] at hx
      rw [if_neg e2] at hx2
      exact key w u w1 w2 w3 e2 x hx2 hx
    · rw [if_neg e1] at hx
      by_cases e2 : w = b
      · rw [if_pos e2] at hx2
        exact key u w u1 u2 u3 e1 x hx hx2
      · rw [if_neg e2] at hx2
        exact b2 u w u1 w1 huw x hx hx2
  · have hbr : ∀ u x, x ∈ br u → x ∈ (if u = b then br b ++ (br v ++ br a) else br u) := fun u x hx => by
      by_cases e : u = b
      · subst e; rw [if_pos rfl]; exact List.mem_append.2 (.inl hx)
      · rw [if_neg e]; exact hx
    have hbra : ∀ x ∈ br a, x ∈ (if b = b then br b ++ (br v ++ br a) else br b) := fun x hx => by
      rw [if_pos rfl]; exact List.mem_append.2 (.inr (List.mem_append.2 (.inr hx)))
    obtain ⟨u1, u2, u3⟩ := (hl u).1 hu
    rcases ((hA u hu).2 w).1 hw with ⟨w1, w2, w3⟩ | ⟨rfl, w1, w2⟩ | ⟨rfl, w1⟩
    · obtain ⟨x, hx, y, hy, hxy⟩ := b3 u w u1 w1
      exact ⟨x, hbr u x hx, y, hbr w y hy, hxy⟩
    · obtain ⟨x, hx, y, hy, hxy⟩ := b3 a w a1 w1
      exact ⟨x, hbra x hx, y, hbr w y hy, hxy⟩
    · obtain ⟨s1, s2, s3⟩ := h.sym a u a1 w1
      obtain ⟨x, hx, y, hy, hxy⟩ := b3 u a u1 s3
      exact ⟨x, hbr u x hx, y, hbra y hy, hxy⟩
end Fil
end
section
set_option linter.unusedVariables false
namespace Fil
abbrev Stp := Nat × Int × List Nat
def leastK (used : List Int) : Nat := ((List.range (used.length + 1)).find? fun c : Nat => !decide ((c : Int) ∈ used)).getD 0
theorem least_spec (used : List Int) : (leastK used : Int) ∉ used ∧ ∀ j, j < leastK used → (j : Int) ∈ used := by
  have hex : ∃ c ∈ List.range (used.length + 1), (!decide ((c : Int) ∈ used)) = true := by
    apply Classical.byContradiction
    intro hno
    have hall : ∀ c ∈ List.range (used.length + 1), (c : Int) ∈ used := fun c hc => Classical.byContradiction fun h => hno ⟨c, hc, by simp [h]⟩
    have := sub_length (l := (List.range (used.length + 1)).map fun c : Nat => (c : Int)) (m := used) (by
      rw [List.Nodup, List.pairwise_map]
      exact List.nodup_range.imp fun h e => h (by omega)) fun a ha => by
        obtain ⟨c, hc, rfl⟩ := List.mem_map.1 ha
        exact hall c hc
    rw [List.length_map, List.length_range] at this
    omega
  cases hf : (List.range (used.length + 1)).find? fun c : Nat => !decide ((c : Int) ∈ used) with
  | none =>
    obtain ⟨c, hc, h2⟩ := hex
    have := List.find?_eq_none.1 hf c hc
    exact absurd h2 this
  | some c =>
    have e : leastK used = c := by rw [leastK, hf]; rfl
    have h1 := List.find?_some hf
    rw [e]
    refine ⟨by simpa using h1, fun j hj => ?_⟩
    obtain ⟨_, xs, ys, h2, h3⟩ := List.find?_eq_some_iff_append.1 hf
    have hcr : c ∈ List.range (used.length + 1) := List.mem_of_find?_eq_some hf
    have hjr : j ∈ List.range (used.length + 1) := by
      rw [List.mem_range] at hcr ⊢; omega
    have hs : (List.range (used.length + 1)).Pairwise (· < ·) := List.pairwise_lt_range
    rw [h2] at hjr hs
    rw [List.pairwise_append] at hs
    rcases List.mem_append.1 hjr with h | h
    · simpa using h3 j h
    · rcases List.mem_cons.1 h with h | h
      · omega
      · have := (List.pairwise_cons.1 hs.2.1).1 j h; omega
theorem least_le {used m : List Int} (h : ∀ x ∈ used, x ∈ m) : leastK used ≤ m.length := by
  have := sub_length (l := (List.range (leastK used)).map fun c : Nat => (c : Int)) (m := m) (by
    rw [List.Nodup, List.pairwise_map]
    exact List.nodup_range.imp fun h e => h (by omega)) fun a ha => by
      obtain ⟨c, hc, rfl⟩ := List.mem_map.1 ha
      exact h _ ((least_spec used).2 c (List.mem_range.1 hc))
  rwa [List.length_map, List.length_range] at this
def cols (out : List Nat) (l : List Nat) : List Int := l.map fun u => ((out.getD u 0 : Nat) : Int)
def stepC (s : Stp) (out : List Nat) : List Nat := if 0 ≤ s.2.1 then out.set s.1 (out.getD s.2.1.toNat 0) else out.set s.1 (leastK (cols out s.2.2))
def colF (N : Nat) (steps : List Stp) : List Nat := steps.foldr stepC (List.replicate N 0)
theorem stepC_length (s : Stp) (out : List Nat) : (stepC s out).length = out.length := by unfold stepC; split <;> simp
theorem colF_length (N : Nat) : ∀ (steps : List Stp), (colF N steps).length = N
  | [] => by simp [colF]
  | s :: t => by rw [colF, List.foldr_cons, stepC_length, ← colF, colF_length N t]
structure Sy (N : Nat) (A : Nat → List Nat) (al : Nat → Bool) : Prop where
  sym : ∀ u w, al u = true → w ∈ A u → al w = true ∧ w ≠ u ∧ u ∈ A w
  lt : ∀ u, al u = true → u < N
theorem Left.sy {R : Nat → List Nat} {N : Nat} {A : Nat → List Nat} {al : Nat → Bool} (h : Left R N A al) : Sy N A al := ⟨h.sym, h.lt⟩
inductive Plan (N : Nat) : (Nat → List Nat) → (Nat → Bool) → List Stp → Prop
  | done {A al} (h : ∀ u, al u = false) : Plan N A al []
  | leave {A al A' al' v l rest} (hs : Sy N A al) (hv : al v = true) (hl : ∀ u, u ∈ l ↔ u ∈ A v) (h4 : l.length ≤ 4) (hal : ∀ u, al' u = (al u && !decide (u = v))) (hA : ∀ u, al' u = true → ∀ w, w ∈ A' u ↔ w ∈ A u ∧ w ≠ v) (h : Plan N A' al' rest) : Plan N A al ((v, -1, l) :: rest)
  | merge {A al A' al' v a b l rest} (hs : Sy N A al) (hv : al v = true) (hl : ∀ u, u ∈ l ↔ u ∈ A v) (h5 : l.length = 5) (ha : a ∈ l) (hb : b ∈ l) (hab : a ≠ b) (hn : b ∉ A a) (hal : ∀ u, al' u = (al u && !decide (u = v) && !decide (u = a)))
      (hA : ∀ u, al' u = true → ∀ w, w ∈ A' u ↔ (w ∈ A u ∧ w ≠ v ∧ w ≠ a) ∨ (u = b ∧ w ∈ A a ∧ w ≠ v) ∨ (w = b ∧ u ∈ A a)) (h : Plan N A' al' rest) : Plan N A al ((v, -1, l) :: (a, (b : Int), []) :: rest)
theorem getD_set_eq {out : List Nat} {v x : Nat} (h : v < out.length) : (out.set v x).getD v 0 = x := by simp [List.getD_eq_getElem?_getD, h]
theorem getD_set_ne {out : List Nat} {v u x : Nat} (h : u ≠ v) : (out.set v x).getD u 0 = out.getD u 0 := by
  rw [List.getD_eq_getElem?_getD, List.getD_eq_getElem?_getD, List.getElem?_set_ne (Ne.symm h)]
theorem Plan.ok {N : Nat} {A : Nat → List Nat} {al : Nat → Bool} {steps : List Stp} (h : Plan N A al steps) : (∀ u, al u = true → (colF N steps).getD u 0 < 5) ∧ ∀ u w, al u = true → w ∈ A u → (colF N steps).getD u 0 ≠ (colF N steps).getD w 0 := by
  induction h with
  | done h0 => exact ⟨fun u hu => (by rw [h0] at hu; cases hu), fun u w hu => (by rw [h0] at hu; cases hu)⟩
  | @leave A al A' al' v l rest hs hv hl h4 hal hA h ih =>
    obtain ⟨i1, i2⟩ := ih
    have hlen := colF_length N rest
    have hvN := hs.lt v hv
    have e : colF N ((v, -1, l) :: rest) = (colF N rest).set v (leastK (cols (colF N rest) l)) := by
      rw [colF, List.foldr_cons, ← colF, stepC, if_neg (by simp)]
    have hal' : ∀ u, al u = true → u ≠ v → al' u = true := fun u h1 h2 => by rw [hal]; simp [h1, h2]
    obtain ⟨s1, s2⟩ := least_spec (cols (colF N rest) l)
    have hle := least_le (used := cols (colF N rest) l) fun x hx => hx
    rw [cols, List.length_map, ← cols] at hle
    rw [e]
    generalize colF N rest = out at *
    have hv2 : (out.set v (leastK (cols out l))).getD v 0 = leastK (cols out l) := getD_set_eq (by omega)
    have ho : ∀ u, u ≠ v → (out.set v (leastK (cols out l))).getD u 0 = out.getD u 0 := fun u hu => getD_set_ne hu
    have hvA : ∀ w ∈ A v, w ≠ v ∧ leastK (cols out l) ≠ out.getD w 0 := fun w hw => by
      refine ⟨(hs.sym v w hv hw).2.1, fun e => s1 ?_⟩
      rw [e]
      exact List.mem_map.2 ⟨w, (hl w).2 hw, rfl⟩
    refine ⟨fun u hu => ?_, fun u w hu hw => ?_⟩
    · by_cases e : u = v
      · subst e; rw [hv2]; omega
      · rw [ho u e]; exact i1 u (hal' u hu e)
    · obtain ⟨w1, w2, w3⟩ := hs.sym u w hu hw
      by_cases e1 : u = v
      · subst e1
        rw [hv2, ho w w2]
        exact (hvA w hw).2
      · by_cases e2 : w = v
        · subst e2
          rw [hv2, ho u e1]
          exact Ne.symm (hvA u w3).2
        · rw [ho u e1, ho w e2]
          exact i2 u w (hal' u hu e1) ((hA u (hal' u hu e1) w).2 ⟨hw, e2⟩)
  | @merge A al A' al' v a b l rest hs hv hl h5 ha hb hab hn hal hA h ih =>
    obtain ⟨i1, i2⟩ := ih
    have hlen := colF_length N rest
    have hvN := hs.lt v hv
    obtain ⟨a1, a2, a3⟩ := hs.sym v a hv ((hl a).1 ha)
    obtain ⟨b1, b2, b3⟩ := hs.sym v b hv ((hl b).1 hb)
    have haN := hs.lt a a1
    have e : colF N ((v, -1, l) :: (a, (b : Int), []) :: rest) = (((colF N rest).set a ((colF N rest).getD b 0))).set v (leastK (cols ((colF N rest).set a ((colF N rest).getD b 0)) l)) := by
      rw [colF, List.foldr_cons, List.foldr_cons, ← colF, stepC, if_neg (by simp)]
      rw [show stepC (a, (b : Int), []) (colF N rest) = (colF N rest).set a ((colF N rest).getD b 0) from by rw [stepC, if_pos (by simp)]; rfl]
    have hal' : ∀ u, al u = true → u ≠ v → u ≠ a → al' u = true := fun u h1 h2 h3 => by rw [hal]; simp [h1, h2, h3]
    rw [e]
    generalize hf : colF N rest = f at *
    have e1 : (f.set a (f.getD b 0)).getD a 0 = f.getD b 0 := getD_set_eq (by omega)
    have e2 : ∀ u, u ≠ a → (f.set a (f.getD b 0)).getD u 0 = f.getD u 0 := fun u hu => getD_set_ne hu
    have hl1 : (f.set a (f.getD b 0)).length = N := by rw [List.length_set]; exact hlen
    generalize f.set a (f.getD b 0) = out at *
    obtain ⟨s1, s2⟩ := least_spec (cols out l)
    have hle := least_le (used := cols out l) (m := cols out (l.erase a)) fun x hx => by
      obtain ⟨u, hu, rfl⟩ := List.mem_map.1 hx
      by_cases hua : u = a
      · subst hua
        rw [e1, ← e2 b (Ne.symm hab)]
        exact List.mem_map.2 ⟨b, (List.mem_erase_of_ne (Ne.symm hab)).2 hb, rfl⟩
      · exact List.mem_map.2 ⟨u, (List.mem_erase_of_ne hua).2 hu, rfl⟩
    rw [cols, cols, List.length_map, ← cols, List.length_erase_of_mem ha, h5] at hle
    have hv2 : (out.set v (leastK (cols out l))).getD v 0 = leastK (cols out l) := getD_set_eq (by omega)
    have ho : ∀ u, u ≠ v → (out.set v (leastK (cols out l))).getD u 0 = out.getD u 0 := fun u hu => getD_set_ne hu
    have hvA : ∀ w ∈ A v, leastK (cols out l) ≠ out.getD w 0 := fun w hw e => s1 (by
      rw [e]
      exact List.mem_map.2 ⟨w, (hl w).2 hw, rfl⟩)
    have hb' : al' b = true := hal' b b1 b2 (Ne.symm hab)
    have haA : ∀ w ∈ A a, w ≠ v → w ≠ a ∧ out.getD a 0 ≠ out.getD w 0 := fun w hw hwv => by
      obtain ⟨w1, w2, w3⟩ := hs.sym a w a1 hw
      refine ⟨w2, ?_⟩
      rw [e1, e2 w w2]
      exact i2 b w hb' ((hA b hb' w).2 (.inr (.inl ⟨rfl, hw, hwv⟩)))
    refine ⟨fun u hu => ?_, fun u w hu hw => ?_⟩
    · by_cases h1 : u = v
      · subst h1; rw [hv2]; omega
      · rw [ho u h1]
        by_cases h2 : u = a
        · subst h2; rw [e1]; exact i1 b hb'
        · rw [e2 u h2]; exact i1 u (hal' u hu h1 h2)
    · obtain ⟨w1, w2, w3⟩ := hs.sym u w hu hw
      by_cases h1 : u = v
      · subst h1
        rw [hv2, ho w w2]
        exact hvA w hw
      · by_cases h2 : w = v
        · subst h2
          rw [hv2, ho u h1]
          exact Ne.symm (hvA u w3)
        · rw [ho u h1, ho w h2]
          by_cases h3 : u = a
          · subst h3; exact (haA w hw h2).2
          · by_cases h4 : w = a
            · subst h4; exact Ne.symm (haA u w3 h1).2
            · rw [e2 u h3, e2 w h4]
              have hu' := hal' u hu h1 h3
              exact i2 u w hu' ((hA u hu' w).2 (.inl ⟨hw, h2, h4⟩))
end Fil
end
section
set_option linter.unusedVariables false
set_option linter.unusedSimpArgs false
namespace Go.Sl
open Go Go.RowKit Fil
section
variable {P : Program} {w0 : World} {S0 : FS} {n : Nat} {F : List (Nat × Value)} {L Lk : List HP} {o : Oper} {x y : Operand} {t e : TypeId} {rest : List Oper} {ops : Array Oper} {Q : Exit → Act → World → Prop} {d i : Nat} {ty : TypeId} {ps : String} {af : Array Edge} {plan : List PI} {b k len : Nat}
theorem q_ibox [T : ArTy P t len e 1] (j : Nat) (ho : o.op = .indexAddr t x y) (hx : ev F x = some (.pointer (some ⟨b, k, none⟩))) (hy : ev F y = some (.int .i64 (j : Int))) (hj : j < len) (h2 : 2 ≤ len) : R1 P w0 S0 n F L o (.pointer (some ⟨b, k + j, none⟩)) :=
  q_of_pure fun a hf w => by
    have hx' := hf.eval hx
    have h3 : ¬ len ≤ 1 := by omega
    simp [execOp, ho, hx', hf.eval hy, Instr.indexAt, Instr.sureAddr, asIntOf, run_underlying T.u, T.size, Addr.add, h3, hj]
theorem s_ibox [T : ArTy P t len e 1] (j : Nat) (hn : Nat.blt d n = true) (hx : ev F x = some (.pointer (some ⟨b, k, none⟩))) (hy : ev F y = some (.int .i64 (j : Int))) (hj : j < len) (h2 : 2 ≤ len) (h : Reach w0 S0 n ((d, .pointer (some ⟨b, k + j, none⟩)) :: F) L (wpList P ops Q rest)) : Reach w0 S0 n F L (wpList P ops Q (⟨some d, .indexAddr t x y, ty, ps, af, none⟩ :: rest)) := s_q rfl rfl hn (q_ibox j rfl hx hy hj h2).q h
theorem t_ibox [T : ArTy P t len e 1] (j : Nat) (hn : Nat.blt d n = true) (hx : ev F x = some (.pointer (some ⟨b, k, none⟩))) (hy : ev F y = some (.int .i64 (j : Int))) (hj : j < len) (h2 : 2 ≤ len) (hkeep : ∀ w, St w0 S0 L w → St w0 S0 Lk w) (h : RP P w0 S0 n ops Q Lk plan ((d, .pointer (some ⟨b, k + j, none⟩)) :: F) L) : RPo P w0 S0 n ops Q Lk ⟨some d, .indexAddr t x y, ty, ps, af, none⟩ i true plan F L := fun ho => p_q ho rfl rfl hn hkeep (q_ibox j rfl hx hy hj h2) h
theorem t_nilc {p : Addr} (hn : Nat.blt d n = true) (hx : ev F x = some (.pointer (some p))) (hkeep : ∀ w, St w0 S0 L w → St w0 S0 Lk w) (h : RP P w0 S0 n ops Q Lk plan ((d, .pointer (some p)) :: F) L) : RPo P w0 S0 n ops Q Lk ⟨some d, .nilCheck x, ty, ps, af, none⟩ i true plan F L := fun ho => p_q ho rfl rfl hn hkeep (q_nilc rfl hx) h
end
/-- the steps' cells -/
def stpV (ss : List Stp) (ns : List Value) : List Value := (ss.zip ns).flatMap fun p => [.int .i64 (p.1.1 : Int), .int .i64 p.1.2.1, p.2]
theorem stpV_snoc {ss : List Stp} {ns : List Value} (h : ss.length = ns.length) (s : Stp) (v : Value) : stpV (ss ++ [s]) (ns ++ [v]) = stpV ss ns ++ [.int .i64 (s.1 : Int), .int .i64 s.2.1, v] := by
  rw [stpV, List.zip_append h, List.flatMap_append]; rfl
/-- what a field owns -/
def fldL (fb : Nat) (vn vg vst : Value) (hs fs ns : List Value) (N : Nat) (As : List (List Nat)) (gone : List Bool) (few : List (List Nat)) (st : List Stp) : List HP :=
  [boxHP fb 61 (vn :: vg :: (fs ++ [vst])), rowHP vn 62 1 N hs, starHP (kids mapK hs (As.map some)), rowHP vg 4 1 N (bV gone), starHP (kids rowN fs few), rowHP vst 68 3 st.length (stpV st ns), starHP (kids rowN ns (st.map fun s => s.2.2))]
def pushK (few As : List (List Nat)) (v : Nat) : List (List Nat) := if (As.getD v []).length ≤ 5 then few.set (As.getD v []).length (few.getD (As.getD v []).length [] ++ [v]) else few
theorem set_self {α : Type} {l : List α} {k : Nat} {x : α} (h : l[k]? = some x) : l.set k x = l := by
  apply List.ext_getElem?
  intro i
  rw [List.getElem?_set]
  split
  · rename_i e
    subst e
    rw [h, if_pos (List.getElem?_eq_some_iff.1 h).1]
  · rfl
theorem cells_set {a b c u : Value} {fs : List Value} {d : Nat} (h : d < fs.length) : (a :: b :: (fs ++ [c])).set (0 + 2 + d) u = a :: b :: (fs.set d u ++ [c]) := by
  rw [show 0 + 2 + d = d + 1 + 1 by omega, List.set_cons_succ, List.set_cons_succ, List.set_append_left _ _ h]
structure FSz (N : Nat) (hs fs ns : List Value) (As few : List (List Nat)) (gone : List Bool) (st : List Stp) : Prop where
  lA : As.length = N
  lH : hs.length = N
  lG : gone.length = N
  lF : fs.length = 6
  lW : few.length = 6
  lS : ns.length = st.length
  hN : N ≤ 1048576
end Go.Sl
namespace Go.Proofs.YtpajjnkmaebhcabGreat
open Go Go.RowKit Go.Sl Fil
set_option maxRecDepth 100000
set_option maxHeartbeats 8000000
set_option linter.unusedVariables false
set_option linter.unusedSimpArgs false
attribute [local irreducible] Code.wp wpList bodyPost wpQuiet Exit.then Exit.inBlock Post wpAnyH wpOp
theorem fsort_ok (fb : Nat) (vn vg vst : Value) (hs fs ns : List Value) (N : Nat) (As : List (List Nat)) (gone : List Bool) (few : List (List Nat)) (st : List Stp) (v : Nat) (w : World) (S : FS) (hsat : sats (fldL fb vn vg vst hs fs ns N As gone few st) S w) (hz : FSz N hs fs ns As few gone st) (hv : v < N) (hc : ∀ l ∈ few, l.length ≤ 1000000) :
    Calls Tryz.prog 33 #[.pointer (some ⟨fb, 0, none⟩), .int .i64 (v : Int)] w (Post w S fun r L' => r = .tuple #[] ∧ ∃ fs' : List Value, fs'.length = 6 ∧ L' = fldL fb vn vg vst hs fs' ns N As gone (pushK few As v) st) := by
  obtain ⟨z1, z2, z3, z4, z5, z6, z7⟩ := hz
  refine enter (vs := [_, _]) Tryz.func33 rfl Tryz.ntmps33 rfl hsat ?_
  rw [fldL]
  refine know_row (v := vn) (.tail _ (.head _)) fun hvn _ => ?_
  obtain ⟨hd, hhd⟩ : ∃ hd, hs[v]? = some hd := ⟨_, List.getElem?_eq_getElem (by omega)⟩
  have hhd1 : hs[v * 1]? = some hd := by simpa using hhd
  have hAv : As[v]? = some (As.getD v []) := by rw [List.getD_eq_getElem?_getD, List.getElem?_eq_getElem (by omega)]; rfl
  have hkv : mapHP? ekI Value.bool okI hd (some (setN (As.getD v []))) ∈ kids mapK hs (As.map some) := by
    refine List.mem_of_getElem? (i := v) ?_
    rw [kids_get (l := some (As.getD v [])) hhd (by rw [List.getElem?_map, hAv]; rfl)]; rfl
  have hsl := setN_length (As.getD v [])
  repeat' first
    | refine k_then ?_ | refine c_seq ?_ | refine c_region ?_ | refine s_nil ?_ | refine s_move (by exact rfl) (by exact rfl) ?_ | refine s_assign (by exact rfl) (by exact rfl) ?_ | refine s_fa (by exact rfl) (by exact rfl) ?_ | refine s_ld_box (by exact rfl) (by exact rfl) (by exact .head _) (by exact rfl) ?_ | refine s_leq (by exact rfl) (by exact rfl) (by exact rfl) ?_ | refine s_lenm_kid (by exact rfl) (by exact rfl) (by assumption) (by exact .tail _ (.tail _ (.head _))) ?_ | refine s_idx (by exact rfl) (by exact rfl) (by exact rfl) (by assumption) (by first | assumption | omega) ?_ | refine s_ld_row (by exact rfl) (by exact rfl) (by exact .tail _ (.head _)) (by assumption) ?_ | refine c_skip ?_ | (refine c_cond_p (by exact rfl) (fun h => ?_) (fun h => ?_) <;> try (exfalso; omega)) | refine s_nilc (by exact rfl) (by exact rfl) ?_ | fail
  · rw [hsl] at h ⊢
    generalize hd5 : (As.getD v []).length = d at *
    have hd6 : d < 6 := by omega
    obtain ⟨fd, hfd⟩ : ∃ fd, fs[d]? = some fd := ⟨_, List.getElem?_eq_getElem (by omega)⟩
    have hfl : few[d]? = some (few.getD d []) := by rw [List.getD_eq_getElem?_getD, List.getElem?_eq_getElem (by omega)]; rfl
    have hll := hc _ (List.mem_of_getElem? hfl)
    have hpush : pushK few As v = few.set d (few.getD d [] ++ [v]) := by rw [pushK, hd5, if_pos (by omega)]
    generalize few.getD d [] = l at *
    have hcell : (vn :: vg :: (fs ++ [vst]))[0 + 2 + d]? = some fd := by
      rw [show 0 + 2 + d = d + 1 + 1 by omega, List.getElem?_cons_succ, List.getElem?_cons_succ, List.getElem?_append_left (by omega), hfd]
    refine c_take 4 d (by exact rfl) (kids_get hfd hfl) ?_
    refine p_begin [(0, true), (1, true), (2, true), (3, true), (4, true), (5, true), (6, true), (8, true), (11, true), (12, true), .rd 7 9, (10, false), (13, true), (14, false)] [rowHP vn 62 1 N hs, starHP (kids mapK hs (As.map some)), rowHP vg 4 1 N (bV gone), starHP ((kids rowN fs few).set d empHP), rowHP vst 68 3 st.length (stpV st ns), starHP (kids rowN ns (st.map fun s => s.2.2))] (by kernel_rfl) ?_
    repeat' first
      | (refine p_at (by exact rfl) ?_
         first
          | refine t_move (by exact rfl) (by exact rfl) (by exact fun _ h => h.tl.tl) ?_ | fail)
      | fail
    refine p_at (by exact rfl) ?_
    refine t_nilc (by exact rfl) (by exact rfl) (by exact fun _ h => h.tl.tl) ?_
    repeat' first
      | (refine p_at (by exact rfl) ?_
         first
          | refine t_fa (by exact rfl) (by exact rfl) (by exact fun _ h => h.tl.tl) ?_ | fail)
      | fail
    refine p_at (by exact rfl) ?_
    refine t_ibox d (by exact rfl) (by exact rfl) (by exact rfl) hd6 (by decide) (by exact fun _ h => h.tl.tl) ?_
    repeat' first
      | (refine p_at (by exact rfl) ?_
         first
          | refine t_move (by exact rfl) (by exact rfl) (by exact fun _ h => h.tl.tl) ?_ | fail)
      | fail
    refine p_at (by exact rfl) ?_
    refine t_nilc (by exact rfl) (by exact rfl) (by exact fun _ h => h.tl.tl) ?_
    repeat' first
      | (refine p_at (by exact rfl) ?_
         first
          | refine t_fa (by exact rfl) (by exact rfl) (by exact fun _ h => h.tl.tl) ?_ | fail)
      | fail
    have hdf : d < fs.length := by omega
    refine p_rd ?_ ?_
    · refine p_at (by exact rfl) ?_
      refine r_ld_box (by exact rfl) (by exact rfl) (.tail _ (.head _)) hcell (by exact fun _ h => h.tl.tl) ?_
      refine p_mk (sz := 1) [.int .i64 (v : Int)] (by exact rfl) (by exact rfl) (by exact rfl) rfl (by simp [Value.cells]) (by simp) (by simp) (fun _ _ h => h.tl.tl.tl) fun v2 hv2 => ?_
      refine p_append_row (bytes := 8) (c := 1) (j := 1) (by exact rfl) (by exact rfl) (by exact rfl) (by exact rfl) (by exact rfl) (.head _) (by simp [Value.cells]) (by simp [Value.cells, Value.oneCell']) (by omega) (fun _ _ h => h.tl.tl.tl) (fun v3 hv3 => ?_)
      skip
      refine p_at (by exact rfl) ?_
      refine t_ibox d (by exact rfl) (by exact rfl) (by exact rfl) hd6 (by decide) (by exact fun _ h => h.tl.tl.tl) ?_
      refine p_st_box (j := 2) (by exact rfl) (by exact rfl) (by exact rfl) (by exact rfl) hv3.one (by simp; omega) (fun _ h => h.tl.tl.tl) ?_
      repeat' first
        | refine p_nil ?_ | fail
      rw [cells_set hdf]
      refine c_pick [1, 1, 1, 1, 1, 1, 1, 1] (by exact rfl) ?_
      refine c_give 4 d (by exact rfl) (by simp [kids]; omega) ?_
      refine ret0 [0, 0, 0, 0, 0, 0, 0] rfl (by exact rfl) ⟨rfl, fs.set d v3, by simpa using z4, ?_⟩
      rw [hpush, fldL, ← kids_set (x := empHP), ← rowN_snoc]
      rfl
    · refine p_mk (sz := 1) [.int .i64 (v : Int)] (by exact rfl) (by exact rfl) (by exact rfl) rfl (by simp [Value.cells]) (by simp) (by simp) (fun _ _ h => h.tl.tl.tl) fun v2 hv2 => ?_
      refine p_at (by exact rfl) ?_
      refine r_ld_box (by exact rfl) (by exact rfl) (.tail _ (.tail _ (.head _))) hcell (by exact fun _ h => h.tl.tl.tl) ?_
      refine p_append_row (bytes := 8) (c := 1) (j := 1) (by exact rfl) (by exact rfl) (by exact rfl) (by exact rfl) (by exact rfl) (.head _) (by simp [Value.cells]) (by simp [Value.cells, Value.oneCell']) (by omega) (fun _ _ h => h.tl.tl.tl) (fun v3 hv3 => ?_)
      skip
      refine p_at (by exact rfl) ?_
      refine t_ibox d (by exact rfl) (by exact rfl) (by exact rfl) hd6 (by decide) (by exact fun _ h => h.tl.tl.tl) ?_
      refine p_st_box (j := 2) (by exact rfl) (by exact rfl) (by exact rfl) (by exact rfl) hv3.one (by simp; omega) (fun _ h => h.tl.tl.tl) ?_
      repeat' first
        | refine p_nil ?_ | fail
      rw [cells_set hdf]
      refine c_pick [1, 1, 1, 1, 1, 1, 1, 1] (by exact rfl) ?_
      refine c_give 4 d (by exact rfl) (by simp [kids]; omega) ?_
      refine ret0 [0, 0, 0, 0, 0, 0, 0] rfl (by exact rfl) ⟨rfl, fs.set d v3, by simpa using z4, ?_⟩
      rw [hpush, fldL, ← kids_set (x := empHP), ← rowN_snoc]
      rfl
  · rw [hsl] at h
    refine ret0 [0, 0, 0, 0, 0, 0, 0] rfl (by exact rfl) ⟨rfl, fs, z4, ?_⟩
    rw [pushK, if_neg (by omega)]
    rfl
end Go.Proofs.YtpajjnkmaebhcabGreat
end
section
set_option linter.unusedVariables false
namespace Go.Proofs.YtpajjnkmaebhcabGreat
open Go Go.RowKit Go.Sl Fil
set_option maxRecDepth 100000
set_option maxHeartbeats 8000000
set_option linter.unusedVariables false
set_option linter.unusedSimpArgs false
attribute [local irreducible] Code.wp wpList bodyPost wpQuiet Exit.then Exit.inBlock Post wpAnyH wpOp
theorem fneigh_ok (fb : Nat) (vn vg vst : Value) (hs fs ns : List Value) (N : Nat) (As : List (List Nat)) (gone : List Bool) (few : List (List Nat)) (st : List Stp) (v : Nat) (l : List Nat) (w : World) (S : FS) (hsat : sats (fldL fb vn vg vst hs fs ns N As gone few st) S w) (hz : FSz N hs fs ns As few gone st) (hA : As[v]? = some l) (hll : l.length ≤ 1048576) :
    Calls Tryz.prog 63 #[.pointer (some ⟨fb, 0, none⟩), .int .i64 (v : Int)] w (Post w S fun r L' => L' = rowHP r 3 1 l.length (nV (sortN l)) :: fldL fb vn vg vst hs fs ns N As gone few st) := by
  obtain ⟨z1, z2, z3, z4, z5, z6, z7⟩ := hz
  have hv : v < N := by have := (List.getElem?_eq_some_iff.1 hA).1; omega
  refine enter (vs := [_, _]) Tryz.func63 rfl Tryz.ntmps63 rfl hsat ?_
  rw [fldL]
  refine know_row (v := vn) (.tail _ (.head _)) fun hvn _ => ?_
  obtain ⟨hd, hhd⟩ : ∃ hd, hs[v]? = some hd := ⟨_, List.getElem?_eq_getElem (by omega)⟩
  have hhd1 : hs[v * 1]? = some hd := by simpa using hhd
  have hkv : (kids mapK hs (As.map some))[v]? = some (mapHP ekI Value.bool okI hd (setN l)) := by
    rw [kids_get (l := some l) hhd (by rw [List.getElem?_map, hA]; rfl)]; rfl
  repeat' first
    | refine k_then ?_ | refine c_seq ?_ | refine c_region ?_ | refine s_nil ?_ | refine s_move (by exact rfl) (by exact rfl) ?_ | refine s_assign (by exact rfl) (by exact rfl) ?_ | refine s_fa (by exact rfl) (by exact rfl) ?_ | refine s_ld_box (by exact rfl) (by exact rfl) (by exact .head _) (by exact rfl) ?_ | refine s_idx (by exact rfl) (by exact rfl) (by exact rfl) (by assumption) (by first | assumption | omega) ?_ | refine s_ld_row (by exact rfl) (by exact rfl) (by exact .tail _ (.head _)) (by assumption) ?_ | refine s_nilc (by exact rfl) (by exact rfl) ?_ | fail
  refine c_take 2 v (by exact rfl) hkv ?_
  refine o_range (i := 0) (by exact rfl) (by exact rfl) (by exact rfl) fun it => ?_
  repeat' first
    | refine k_then ?_ | refine s_nil ?_ | refine c_block ?_ | fail
  refine c_nil 3 1 ?_
  refine c_loop (fun x : List Nat × List Nat × Option (Int × Bool) × Value => (x.1 ++ x.2.1).Perm l) (fun x => [(0, .pointer (some ⟨fb, 0, none⟩)), (4, x.2.2.2), (13, it)]) (fun x => [rangeHP ekI Value.bool okI hd it (setN l) (setN x.2.1) x.2.2.1, rowHP x.2.2.2 3 1 x.1.length (nV x.1), boxHP fb 61 (vn :: vg :: (fs ++ [vst])), rowHP vn 62 1 N hs, starHP ((kids mapK hs (As.map some)).set v empHP), rowHP vg 4 1 N (bV gone), starHP (kids rowN fs few), rowHP vst 68 3 st.length (stpV st ns), starHP (kids rowN ns (st.map fun s => s.2.2))]) (fun x => x.2.1.length) ([], l, none, .slice none 0 0) [1, 0, 0, 0, 0, 0, 0, 0, 0] (List.Perm.refl l) (by exact rfl) ⟨rfl, rfl, rfl, trivial⟩ ?_
  rintro ⟨dn, lf, cur, vo⟩ hp
  dsimp only at hp ⊢
  repeat' first
    | refine c_seq ?_ | refine c_region ?_ | fail
  refine o_next (i := 0) (by exact rfl) (by exact rfl) (by exact rfl) (fun he => ?_) (fun l1 p l2 he => ?_)
  · obtain rfl : lf = [] := by simpa [setN] using he
    rw [List.append_nil] at hp
    have hpl := hp.length_eq
    repeat' first
      | refine k_then ?_ | refine c_seq ?_ | refine c_region ?_ | refine s_nil ?_ | refine s_move (by exact rfl) (by exact rfl) ?_ | refine s_extract (by exact rfl) (by exact rfl) (by exact rfl) ?_ | refine c_exit ?_ | refine k_then_exit ?_ | refine k_blk_eq ?_ | refine c_cond_f (by exact rfl) ?_ | fail
    refine c_unrange (i := 0) (by exact rfl) ?_
    refine c_pick [1, 0, 0, 0, 0, 0, 0, 0, 0] (by exact rfl) ?_
    refine s_lend [rowHP vo 3 1 dn.length (nV dn)] _ (by exact rfl) (by exact rfl) (by exact rfl) (fun w S h => nsort_row (sats_mem h.own (.head _)) (by omega)) ?_
    rintro _ _ ⟨rfl, rfl⟩
    repeat' first
      | refine k_then ?_ | refine c_seq ?_ | refine c_region ?_ | refine s_nil ?_ | refine s_move (by exact rfl) (by exact rfl) ?_ | refine s_assign (by exact rfl) (by exact rfl) ?_ | refine c_ret ?_ | fail
    refine c_pick [1, 0, 0, 0, 0, 0, 0, 0, 0] (by exact rfl) ?_
    refine c_give 3 v (by exact rfl) (by simp [kids]; omega) ?_
    refine ret1 [0, 0, 0, 0, 0, 0, 0, 0] rfl rfl (by exact rfl) ?_
    rw [← sortN_congr hp, hpl, List.set_set, set_self hkv]
    rfl
  · obtain ⟨a1, u, a2, rfl, rfl, e2⟩ := setN_split he
    rw [e2]
    have hpl := hp.length_eq
    simp only [List.length_append, List.length_cons] at hpl
    repeat' first
      | refine k_then ?_ | refine c_seq ?_ | refine c_region ?_ | refine s_nil ?_ | refine s_move (by exact rfl) (by exact rfl) ?_ | refine s_assign (by exact rfl) (by exact rfl) ?_ | refine s_entry (by exact rfl) (by exact rfl) (by exact .head _) ?_ | refine s_extract (by exact rfl) (by exact rfl) (by exact rfl) ?_ | refine c_block ?_ | refine c_skip ?_ | refine c_cond_t (by exact rfl) ?_ | fail
    refine o_mk [.int .i64 (u : Int)] (by exact rfl) (by exact rfl) rfl ?_ ?_ (by simp) fun vt hvt => ?_
    · simp [Value.cells]
    · simp
    skip
    refine o_append_row (i := 2) (by exact rfl) (by exact rfl) (by exact rfl) (by exact rfl) (by exact .head _) (by exact rfl) (by simp [Value.cells, Value.oneCell']) ?_ fun vo2 hvo2 => ?_
    · omega
    repeat' first
      | refine k_then ?_ | refine s_nil ?_ | refine s_assign (by exact rfl) (by exact rfl) ?_ | refine k_blk ?_ | fail
    refine c_round (dn ++ [u], a1 ++ a2, some ((u : Int), true), vo2) [1, 1, 1, 1, 1, 1, 1, 1, 1] ?_ (by exact ⟨rfl, rfl, rfl, trivial⟩) ?_ (by simp)
    · dsimp only
      have e1 : rowHP vo2 3 1 (dn.length + 1) (nV dn ++ [Value.int .i64 (u : Int)]) = rowHP vo2 3 1 (dn ++ [u]).length (nV (dn ++ [u])) := by simp [nV]
      rw [← e1]
      rfl
    · dsimp only
      refine List.Perm.trans ?_ hp
      rw [List.append_assoc]
      exact List.Perm.append_left dn (by simpa using List.perm_middle.symm)
end Go.Proofs.YtpajjnkmaebhcabGreat
end
section
set_option linter.unusedVariables false
namespace Go.Sl
open Go Go.RowKit Fil
theorem six {fs : List Value} (h : fs.length = 6) : ∃ f0 f1 f2 f3 f4 f5, fs = [f0, f1, f2, f3, f4, f5] := by
  match fs, h with
  | [f0, f1, f2, f3, f4, f5], _ => exact ⟨f0, f1, f2, f3, f4, f5, rfl⟩
/-- a neighbour forgets a vertex, and is sorted in -/
def leave1 (v : Nat) (p : List (List Nat) × List (List Nat)) (u : Nat) : List (List Nat) × List (List Nat) :=
  (p.1.set u ((p.1.getD u []).filter fun a => a ≠ v), pushK p.2 (p.1.set u ((p.1.getD u []).filter fun a => a ≠ v)) u)
def leaveS (v : Nat) (p : List (List Nat) × List (List Nat)) (us : List Nat) : List (List Nat) × List (List Nat) := us.foldl (leave1 v) p
theorem leaveS_take {v : Nat} {p : List (List Nat) × List (List Nat)} {us : List Nat} {j u : Nat} (h : us[j]? = some u) : leaveS v p (us.take (j + 1)) = leave1 v (leaveS v p (us.take j)) u := by
  rw [leaveS, List.take_add_one, h, List.foldl_append]; rfl
theorem pushK_length (few As : List (List Nat)) (v : Nat) : (pushK few As v).length = few.length := by unfold pushK; split <;> simp
theorem pushK_le {few As : List (List Nat)} {v c : Nat} (h : ∀ l ∈ few, l.length ≤ c) : ∀ l ∈ pushK few As v, l.length ≤ c + 1 := by
  intro l hl
  unfold pushK at hl
  split at hl
  · rcases List.mem_or_eq_of_mem_set hl with hl | rfl
    · have := h l hl; omega
    · rw [List.length_append, List.getD_eq_getElem?_getD]
      cases hg : few[(As.getD v []).length]? with
      | none => simp
      | some x => have := h x (List.mem_of_getElem? hg); simp; omega
  · have := h l hl; omega
theorem leaveS_len {v c : Nat} : ∀ {us : List Nat} {p : List (List Nat) × List (List Nat)}, (∀ l ∈ p.2, l.length ≤ c) → (leaveS v p us).1.length = p.1.length ∧ (leaveS v p us).2.length = p.2.length ∧ ∀ l ∈ (leaveS v p us).2, l.length ≤ c + us.length := by
  intro us
  induction us generalizing c with
  | nil => exact fun h => ⟨rfl, rfl, h⟩
  | cons u us ih =>
    intro p h
    obtain ⟨h1, h2, h3⟩ := ih (p := leave1 v p u) (c := c + 1) (pushK_le h)
    refine ⟨h1.trans (by simp [leave1]), h2.trans (pushK_length _ _ _), fun l hl => ?_⟩
    have := h3 l hl
    rw [List.length_cons]; omega
end Go.Sl
namespace Go.Proofs.YtpajjnkmaebhcabGreat
open Go Go.RowKit Go.Sl Fil
set_option maxRecDepth 100000
set_option maxHeartbeats 8000000
set_option linter.unusedVariables false
set_option linter.unusedSimpArgs false
attribute [local irreducible] Code.wp wpList bodyPost wpQuiet Exit.then Exit.inBlock Post wpAnyH wpOp
theorem fleave_ok (fb : Nat) (vn vg vst : Value) (hs fs ns : List Value) (N : Nat) (As : List (List Nat)) (gone : List Bool) (few : List (List Nat)) (st : List Stp) (v : Nat) (l : List Nat) (w : World) (S : FS) (hsat : sats (fldL fb vn vg vst hs fs ns N As gone few st) S w) (hz : FSz N hs fs ns As few gone st) (hA : As[v]? = some l) (hll : l.length ≤ 10000) (hlN : ∀ u ∈ l, u < N) (c : Nat) (hc : ∀ l ∈ few, l.length ≤ c) (hcc : c ≤ 900000) (hst : st.length ≤ 900000) :
    Calls Tryz.prog 64 #[.pointer (some ⟨fb, 0, none⟩), .int .i64 (v : Int)] w (Post w S fun r L' => r = .tuple #[] ∧ ∃ (vst' : Value) (fs' ns' : List Value), fs'.length = 6 ∧ ns'.length = st.length + 1 ∧ L' = fldL fb vn vg vst' hs fs' ns' N (leaveS v (As, few) (sortN l)).1 (gone.set v true) (leaveS v (As, few) (sortN l)).2 (st ++ [(v, -1, sortN l)])) := by
  have hz' := hz
  obtain ⟨z1, z2, z3, z4, z5, z6, z7⟩ := hz
  have hv : v < N := by have := (List.getElem?_eq_some_iff.1 hA).1; omega
  obtain ⟨f0, f1, f2, f3, f4, f5, rfl⟩ := six z4
  refine enter (vs := [_, _]) Tryz.func64 rfl Tryz.ntmps64 rfl hsat ?_
  repeat' first
    | refine c_seq ?_ | refine c_region ?_ | refine s_move (by exact rfl) (by exact rfl) ?_ | fail
  refine s_lend (vs := [.pointer (some ⟨fb, 0, none⟩), .int .i64 (v : Int)]) (fldL fb vn vg vst hs [f0, f1, f2, f3, f4, f5] ns N As gone few st) [] (by rw [List.append_nil]) (by exact rfl) (by exact rfl) (fun w S h => fneigh_ok fb vn vg vst hs _ ns N As gone few st v l w S h.own hz' hA (by omega)) ?_
  rintro nv _ rfl
  have hsl := (sortN_perm l).length_eq
  rw [List.append_nil, fldL, ← hsl]
  refine know_row (v := nv) (.head _) fun hnv _ => ?_
  refine know_row (v := vg) (by exact .tail _ (.tail _ (.tail _ (.tail _ (.head _))))) fun hvg _ => ?_
  refine know_row (v := vn) (by exact .tail _ (.tail _ (.head _))) fun hvn _ => ?_
  refine know_row (v := vst) (by exact .tail _ (.tail _ (.tail _ (.tail _ (.tail _ (.tail _ (.head _))))))) fun hvst _ => ?_
  repeat' first
    | refine k_then ?_ | refine c_seq ?_ | refine c_region ?_ | refine s_nil ?_ | refine s_move (by exact rfl) (by exact rfl) ?_ | refine s_assign (by exact rfl) (by exact rfl) ?_ | refine s_fa (by exact rfl) (by exact rfl) ?_ | refine s_ld_box (by exact rfl) (by exact rfl) (by exact .tail _ (.head _)) (by exact rfl) ?_ | refine s_idx (by exact rfl) (by exact rfl) (by exact rfl) (by assumption) (by first | assumption | omega) ?_ | refine s_nilc (by exact rfl) (by exact rfl) ?_ | fail
  refine o_st_row (i := 4) (by exact rfl) (by exact rfl) (by exact rfl) rfl (by omega) ?_
  rw [bV_set]
  repeat' first
    | refine k_then ?_ | refine c_seq ?_ | refine c_region ?_ | refine s_nil ?_ | refine s_move (by exact rfl) (by exact rfl) ?_ | refine s_fa (by exact rfl) (by exact rfl) ?_ | refine s_ld_box (by exact rfl) (by exact rfl) (by exact .tail _ (.head _)) (by exact rfl) ?_ | refine s_nilc (by exact rfl) (by exact rfl) ?_ | fail
  refine o_build (cs := [.int .i64 (v : Int), .int .i64 (-1), nv]) [(0, .int .i64 (v : Int), [.int .i64 (v : Int)]), (1, .int .i64 (-1), [.int .i64 (-1)]), (2, nv, [nv])] (by exact rfl) (by exact rfl) (by
    intro q hq
    simp only [List.mem_cons, List.not_mem_nil, or_false] at hq
    rcases hq with rfl | rfl | rfl
    · rfl
    · rfl
    · exact one_cells hnv.one) (by exact rfl) ?_
  refine o_mk (sz := 3) [.agg #[.int .i64 (v : Int), .int .i64 (-1), nv]] (by exact rfl) (by exact rfl) rfl (by simp [Value.cells]) (by simp) (by simp) fun v2 hv2 => ?_
  refine o_append_row (bytes := 40) (i := 7) (by exact rfl) (by exact rfl) (by exact rfl) (by exact rfl) (.head _) (by simp [Value.cells]) (by
    intro u hu
    simp only [List.flatMap_cons, List.flatMap_nil, List.append_nil, Value.cells, List.mem_cons, List.not_mem_nil, or_false] at hu
    rcases hu with rfl | rfl | rfl
    · rfl
    · rfl
    · exact hnv.one) (by omega) fun vst2 hvst2 => ?_
  repeat' first
    | refine s_fa (by exact rfl) (by exact rfl) ?_ | refine s_nilc (by exact rfl) (by exact rfl) ?_ | fail
  refine o_st_box (i := 2) (by exact rfl) (by exact rfl) (by exact rfl) hvst2.one (by simp) ?_
  repeat' first
    | refine k_then ?_ | refine c_seq ?_ | refine c_region ?_ | refine s_nil ?_ | refine s_move (by exact rfl) (by exact rfl) ?_ | refine s_len (by exact rfl) (by exact rfl) (by assumption) ?_ | refine c_block ?_ | fail
  refine c_pick [1, 1, 1, 1, 1, 1, 1, 1] (by exact rfl) ?_
  refine c_pushk 6 (by exact rfl) ?_
  have hE : rowHP vst2 68 3 (st.length + 1) (stpV st ns ++ [.int .i64 (v : Int), .int .i64 (-1), nv]) = rowHP vst2 68 3 (st ++ [(v, -1, sortN l)]).length (stpV (st ++ [(v, -1, sortN l)]) (ns ++ [nv])) := by rw [stpV_snoc z6.symm, List.length_append]; rfl
  have hK : kids rowN ns (st.map fun s : Stp => s.2.2) ++ [rowHP nv 3 1 (sortN l).length (nV (sortN l))] = kids rowN (ns ++ [nv]) ((st ++ [(v, -1, sortN l)]).map fun s : Stp => s.2.2) := by
    rw [List.map_append]; exact (kids_append (by simpa using z6)).symm
  have hlt : ∀ j, (leaveS v (As, few) ((sortN l).take j)).1.length = N ∧ (leaveS v (As, few) ((sortN l).take j)).2.length = 6 ∧ ∀ x ∈ (leaveS v (As, few) ((sortN l).take j)).2, x.length ≤ c + ((sortN l).take j).length := fun j => by
    obtain ⟨a, b, d⟩ := leaveS_len (v := v) (us := (sortN l).take j) (p := (As, few)) hc
    exact ⟨a.trans z1, b.trans z5, d⟩
  refine c_loop (fun x : Nat × List Value => x.1 ≤ (sortN l).length ∧ x.2.length = 6) (fun x => [(0, .pointer (some ⟨fb, 0, none⟩)), (1, .int .i64 (v : Int)), (28, nv), (29, .int .i64 ((sortN l).length : Int)), (30, .int .i64 (x.1 : Int))])
    (fun x => fldL fb vn vg vst2 hs x.2 (ns ++ [nv]) N (leaveS v (As, few) ((sortN l).take x.1)).1 (gone.set v true) (leaveS v (As, few) ((sortN l).take x.1)).2 (st ++ [(v, -1, sortN l)])) (fun x => (sortN l).length - x.1) (0, [f0, f1, f2, f3, f4, f5]) [0, 0, 0, 0, 0, 0, 0] ⟨Nat.zero_le _, rfl⟩ (by rw [fldL, ← hE, ← hK]; exact rfl) ⟨rfl, rfl, rfl, rfl, rfl, trivial⟩ ?_
  rintro ⟨j, gs⟩ ⟨hj, hgs⟩
  dsimp only at hj hgs ⊢
  obtain ⟨y1, y2, y3⟩ := hlt j
  by_cases hjl : j < (sortN l).length
  · obtain ⟨u, hu⟩ : ∃ u, (sortN l)[j]? = some u := ⟨_, List.getElem?_eq_getElem hjl⟩
    have huN := hlN u ((sortN_perm l).mem_iff.1 (List.mem_of_getElem? hu))
    have htk := leaveS_take (v := v) (p := (As, few)) hu
    rw [leave1] at htk
    generalize hBB : leaveS v (As, few) ((sortN l).take j) = B at *
    obtain ⟨m, hm⟩ : ∃ m, B.1[u]? = some m := ⟨_, List.getElem?_eq_getElem (by omega)⟩
    have hmD : B.1.getD u [] = m := by rw [List.getD_eq_getElem?_getD, hm]; rfl
    rw [hmD] at htk
    obtain ⟨hu0, hhu⟩ : ∃ hd, hs[u]? = some hd := ⟨_, List.getElem?_eq_getElem (by omega)⟩
    have hhu1 : hs[u * 1]? = some hu0 := by simpa using hhu
    have hku : (kids mapK hs (B.1.map some))[u]? = some (mapHP ekI Value.bool okI hu0 (setN m)) := by
      rw [kids_get (l := some m) hhu (by rw [List.getElem?_map, hm]; rfl)]; rfl
    have hjv : (nV (sortN l))[j * 1]? = some (.int .i64 (u : Int)) := by rw [Nat.mul_one, nV, List.getElem?_map, hu]; rfl
    rw [fldL]
    have hnk : rowHP nv 3 1 (sortN l).length (nV (sortN l)) ∈ kids rowN (ns ++ [nv]) ((st ++ [(v, -1, sortN l)]).map fun s : Stp => s.2.2) := by rw [← hK]; simp
    repeat' first
      | refine k_then ?_ | refine c_seq ?_ | refine c_region ?_ | refine s_nil ?_ | refine s_move (by exact rfl) (by exact rfl) ?_ | refine s_assign (by exact rfl) (by exact rfl) ?_ | refine s_fa (by exact rfl) (by exact rfl) ?_ | refine s_ld_box (by exact rfl) (by exact rfl) (by exact .head _) (by exact rfl) ?_ | refine s_lss (by exact rfl) (by exact rfl) (by exact rfl) ?_ | refine s_idx (by exact rfl) (by exact rfl) (by exact rfl) (by assumption) (by first | assumption | omega) ?_ | refine s_ld_row (by exact rfl) (by exact rfl) (by exact .tail _ (.head _)) (by assumption) ?_ | refine s_ld_kid (by exact rfl) (by exact rfl) (by assumption) (by exact .tail _ (.tail _ (.tail _ (.tail _ (.tail _ (.tail _ (.head _))))))) (by assumption) ?_ | refine c_block ?_ | refine c_skip ?_ | (refine c_cond_p (by exact rfl) (fun h => ?_) (fun h => ?_) <;> try (exfalso; omega)) | refine s_nilc (by exact rfl) (by exact rfl) ?_ | fail
    refine c_take 2 u (by exact rfl) hku ?_
    refine o_del (v : Int) (i := 0) (by exact rfl) (by exact rfl) (by exact rfl) rfl ⟨by omega, by omega⟩ ?_
    rw [delK_setN]
    repeat' first
      | refine k_then ?_ | refine c_region ?_ | refine s_nil ?_ | refine s_move (by exact rfl) (by exact rfl) ?_ | fail
    refine c_give 2 u (by exact rfl) (by simp [kids]; omega) ?_
    have hK2 : (((kids mapK hs (B.1.map some)).set u empHP).set u (mapHP ekI Value.bool okI hu0 (setN (m.filter fun a => a ≠ v)))) = kids mapK hs ((B.1.set u (m.filter fun a => a ≠ v)).map some) := by
      rw [List.set_set, show (mapHP ekI Value.bool okI hu0 (setN (m.filter fun a => a ≠ v))) = mapK hu0 (some (m.filter fun a => a ≠ v)) from rfl, kids_put2 hhu, List.map_set]
    rw [hK2]
    have hz2 : FSz N hs gs (ns ++ [nv]) (B.1.set u (m.filter fun a => a ≠ v)) B.2 (gone.set v true) (st ++ [(v, -1, sortN l)]) := ⟨by simp [y1], z2, by simp [z3], hgs, y2, by simp [z6], z7⟩
    refine s_lend (vs := [.pointer (some ⟨fb, 0, none⟩), .int .i64 (u : Int)]) (fldL fb vn vg vst2 hs gs (ns ++ [nv]) N (B.1.set u (m.filter fun a => a ≠ v)) (gone.set v true) B.2 (st ++ [(v, -1, sortN l)])) [] (by rw [List.append_nil]; exact rfl) (by exact rfl) (by exact rfl) (fun w S h => fsort_ok fb vn vg vst2 hs gs (ns ++ [nv]) N _ _ _ _ u w S h.own hz2 huN fun x hx => by have := y3 x hx; have h9 := List.length_take_le j (sortN l); omega) ?_
    rintro _ _ ⟨rfl, gs2, hg2, rfl⟩
    repeat' first
      | refine k_then ?_ | refine c_region ?_ | refine s_nil ?_ | refine s_move (by exact rfl) (by exact rfl) ?_ | refine s_add (by exact rfl) (by exact rfl) (by exact rfl) (by omega) ?_ | refine k_blk ?_ | fail
    refine c_round (j + 1, gs2) [0, 0, 0, 0, 0, 0, 0] (by dsimp only; rw [htk]; exact rfl) ⟨rfl, rfl, rfl, rfl, rfl, trivial⟩ ⟨by dsimp only; omega, hg2⟩ (by dsimp only; omega)
  · obtain rfl : j = (sortN l).length := by omega
    rw [List.take_length]
    repeat' first
      | refine k_then ?_ | refine c_seq ?_ | refine c_region ?_ | refine s_nil ?_ | refine s_lss (by exact rfl) (by exact rfl) (by exact rfl) ?_ | refine c_exit ?_ | refine k_then_exit ?_ | refine k_blk_eq ?_ | (refine c_cond_p (by exact rfl) (fun h => ?_) (fun h => ?_) <;> try (exfalso; omega)) | fail
    refine ret0 [0, 0, 0, 0, 0, 0, 0] rfl (by exact rfl) ⟨rfl, vst2, gs, ns ++ [nv], hgs, by simp [z6], rfl⟩
end Go.Proofs.YtpajjnkmaebhcabGreat
end
section
set_option linter.unusedVariables false
namespace Go.Proofs.YtpajjnkmaebhcabGreat
open Go Go.RowKit Go.Sl Fil
set_option maxRecDepth 100000
set_option maxHeartbeats 8000000
set_option linter.unusedVariables false
set_option linter.unusedSimpArgs false
attribute [local irreducible] Code.wp wpList bodyPost wpQuiet Exit.then Exit.inBlock Post wpAnyH wpOp
theorem fapart_ok (fb : Nat) (vn vg vst vl : Value) (hs fs ns : List Value) (N : Nat) (As : List (List Nat)) (gone : List Bool) (few : List (List Nat)) (st : List Stp) (l : List Nat) (w : World) (S : FS) (hsat : sats (fldL fb vn vg vst hs fs ns N As gone few st) S w) (hz : FSz N hs fs ns As few gone st) (hsl : Shp vl l.length) (hrl : RO w S vl (nV l)) (hlN : ∀ u ∈ l, u < N) (hln : l.Nodup) :
    Calls Tryz.prog 65 #[.pointer (some ⟨fb, 0, none⟩), vl] w (Post w S fun r L' => L' = fldL fb vn vg vst hs fs ns N As gone few st ∧ ((r = .tuple #[.int .i64 (-1), .int .i64 (-1)] ∧ ∀ (i j u x : Nat), j < i → l[i]? = some u → l[j]? = some x → x ∈ As.getD u []) ∨ ∃ u x : Nat, r = .tuple #[.int .i64 (u : Int), .int .i64 (x : Int)] ∧ u ∈ l ∧ x ∈ l ∧ u ≠ x ∧ x ∉ As.getD u [])) := by
  obtain ⟨z1, z2, z3, z4, z5, z6, z7⟩ := hz
  have hll := hsl.1
  simp only [maxLen] at hll
  refine enter (vs := [_, _]) Tryz.func65 rfl Tryz.ntmps65 rfl hsat ?_
  rw [fldL]
  refine know_row (v := vn) (by exact .tail _ (.head _)) fun hvn _ => ?_
  repeat' first
    | refine k_then ?_ | refine c_seq ?_ | refine c_region ?_ | refine s_nil ?_ | refine s_move (by exact rfl) (by exact rfl) ?_ | refine s_assign (by exact rfl) (by exact rfl) ?_ | refine s_len (by exact rfl) (by exact rfl) (by assumption) ?_ | refine c_block ?_ | fail
  refine c_loop (fun i : Nat => i ≤ l.length ∧ ∀ (i' j u x : Nat), i' < i → j < i' → l[i']? = some u → l[j]? = some x → x ∈ As.getD u []) (fun i => [(0, .pointer (some ⟨fb, 0, none⟩)), (1, vl), (10, vl), (11, .int .i64 (l.length : Int)), (12, .int .i64 (i : Int))])
    (fun _ => fldL fb vn vg vst hs fs ns N As gone few st) (fun i => l.length - i) 0 [0, 0, 0, 0, 0, 0, 0] ⟨Nat.zero_le _, fun i' j u x h => by omega⟩ (by exact rfl) ⟨rfl, rfl, rfl, rfl, rfl, trivial⟩ ?_
  rintro i ⟨hi, hq⟩
  by_cases hil : i < l.length
  · obtain ⟨u, hu⟩ : ∃ u, l[i]? = some u := ⟨_, List.getElem?_eq_getElem hil⟩
    have huN := hlN u (List.mem_of_getElem? hu)
    have hiv : (nV l)[i * 1]? = some (.int .i64 (u : Int)) := by rw [Nat.mul_one, nV, List.getElem?_map, hu]; rfl
    obtain ⟨hd, hhd⟩ : ∃ hd, hs[u]? = some hd := ⟨_, List.getElem?_eq_getElem (by omega)⟩
    have hhd1 : hs[u * 1]? = some hd := by simpa using hhd
    have hAu : As[u]? = some (As.getD u []) := by rw [List.getD_eq_getElem?_getD, List.getElem?_eq_getElem (by omega)]; rfl
    have hkv : mapHP? ekI Value.bool okI hd (some (setN (As.getD u []))) ∈ kids mapK hs (As.map some) := by
      refine List.mem_of_getElem? (i := u) ?_
      rw [kids_get (l := some (As.getD u [])) hhd (by rw [List.getElem?_map, hAu]; rfl)]; rfl
    have hcs := Shp.cut (sz := 1) hsl (Nat.zero_le i) hi
    have hcr := RO.cut (sz := 1) hsl hrl (Nat.zero_le i) hi
    rw [Nat.sub_zero] at hcs
    rw [fldL]
    repeat' first
      | refine k_then ?_ | refine c_seq ?_ | refine c_region ?_ | refine s_nil ?_ | refine s_move (by exact rfl) (by exact rfl) ?_ | refine s_assign (by exact rfl) (by exact rfl) ?_ | refine s_lss (by exact rfl) (by exact rfl) (by exact rfl) ?_ | refine s_len (by exact rfl) (by exact rfl) (by assumption) ?_ | refine s_idx (by exact rfl) (by exact rfl) (by exact rfl) (by assumption) (by first | assumption | omega) ?_ | refine s_ld_ro (by exact rfl) (by exact rfl) (by assumption) (by assumption) ?_ | refine s_cut_hi (by exact rfl) (by exact rfl) (by exact rfl) (by assumption) (by omega) ?_ | refine c_block ?_ | refine c_skip ?_ | (refine c_cond_p (by exact rfl) (fun h => ?_) (fun h => ?_) <;> try (exfalso; omega)) | fail
    refine c_loop (fun j : Nat => j ≤ i ∧ ∀ (j' x : Nat), j' < j → l[j']? = some x → x ∈ As.getD u []) (fun j => [(0, .pointer (some ⟨fb, 0, none⟩)), (1, vl), (7, .int .i64 (u : Int)), (10, vl), (11, .int .i64 (l.length : Int)), (12, .int .i64 (i : Int)), (19, cutV vl 1 0 i), (20, .int .i64 (i : Int)), (21, .int .i64 (j : Int))])
      (fun _ => fldL fb vn vg vst hs fs ns N As gone few st) (fun j => i - j) 0 [0, 0, 0, 0, 0, 0, 0] ⟨Nat.zero_le _, fun j' x h => by omega⟩ (by exact rfl) ⟨rfl, rfl, rfl, rfl, rfl, rfl, rfl, rfl, rfl, trivial⟩ ?_
    rintro j ⟨hj, hqj⟩
    by_cases hji : j < i
    · obtain ⟨x, hx⟩ : ∃ x, l[j]? = some x := ⟨_, List.getElem?_eq_getElem (by omega)⟩
      have hxN := hlN x (List.mem_of_getElem? hx)
      have hjv : (List.take ((i - 0) * 1) (List.drop (0 * 1) (nV l)))[j * 1]? = some (.int .i64 (x : Int)) := by
        rw [Nat.mul_one, Nat.zero_mul, List.drop_zero, List.getElem?_take, if_pos (by omega), nV, List.getElem?_map, Nat.mul_one, hx]; rfl
      have hgk := getK_setN (As.getD u []) x
      rw [fldL]
      repeat' first
        | refine k_then ?_ | refine c_seq ?_ | refine c_region ?_ | refine s_nil ?_ | refine s_move (by exact rfl) (by exact rfl) ?_ | refine s_assign (by exact rfl) (by exact rfl) ?_ | refine s_fa (by exact rfl) (by exact rfl) ?_ | refine s_ld_box (by exact rfl) (by exact rfl) (by exact .head _) (by exact rfl) ?_ | refine s_lss (by exact rfl) (by exact rfl) (by exact rfl) ?_ | refine s_not (by exact rfl) (by exact rfl) ?_ | refine s_look_kid (by exact rfl) (by exact rfl) (by exact rfl) (by assumption) (by exact .tail _ (.tail _ (.head _))) (by exact rfl) (by assumption) (by first | exact ⟨by omega, by omega⟩ | exact ⟨⟨by omega, by omega⟩, by omega, by omega⟩) ?_ | refine s_idx (by exact rfl) (by exact rfl) (by exact rfl) (by assumption) (by first | assumption | omega) ?_ | refine s_ld_ro (by exact rfl) (by exact rfl) (by assumption) (by assumption) ?_ | refine s_ld_row (by exact rfl) (by exact rfl) (by exact .tail _ (.head _)) (by assumption) ?_ | refine c_block ?_ | refine c_skip ?_ | (refine c_cond_p (by exact rfl) (fun h => ?_) (fun h => ?_) <;> try (exfalso; omega)) | refine s_nilc (by exact rfl) (by exact rfl) ?_ | fail
      by_cases hm : x ∈ As.getD u []
      · rw [decide_eq_true hm]
        repeat' first
          | refine k_then ?_ | refine c_region ?_ | refine s_nil ?_ | refine s_move (by exact rfl) (by exact rfl) ?_ | refine s_add (by exact rfl) (by exact rfl) (by exact rfl) (by omega) ?_ | refine c_skip ?_ | refine k_blk ?_ | refine c_cond_f (by exact rfl) ?_ | fail
        refine c_round (j + 1) [0, 0, 0, 0, 0, 0, 0] (by exact rfl) ⟨rfl, rfl, rfl, rfl, rfl, rfl, rfl, rfl, rfl, trivial⟩ ⟨by omega, fun j' x' h1 h2 => ?_⟩ (by omega)
        by_cases e : j' = j
        · subst e
          rw [hx] at h2
          obtain rfl := Option.some.inj h2
          exact hm
        · exact hqj j' x' (by omega) h2
      · rw [decide_eq_false hm]
        repeat' first
          | refine k_then ?_ | refine c_seq ?_ | refine c_region ?_ | refine s_nil ?_ | refine s_move (by exact rfl) (by exact rfl) ?_ | refine s_assign (by exact rfl) (by exact rfl) ?_ | refine c_ret ?_ | refine k_then_ret ?_ | refine k_blk_ret ?_ | refine c_cond_t (by exact rfl) ?_ | fail
        have hne : u ≠ x := fun e => by
          have := (List.getElem?_inj hil hln (j := j)).1 (by rw [hu, hx, e])
          omega
        refine retL [.tmp 4, .tmp 5] [.int .i64 (u : Int), .int .i64 (x : Int)] [0, 0, 0, 0, 0, 0, 0] rfl ⟨res_tmp rfl, res_tmp rfl, trivial⟩ (by exact rfl) ⟨rfl, .inr ⟨u, x, rfl, List.mem_of_getElem? hu, List.mem_of_getElem? hx, hne, hm⟩⟩
    · obtain rfl : j = i := by omega
      repeat' first
        | refine k_then ?_ | refine c_seq ?_ | refine c_region ?_ | refine s_nil ?_ | refine s_move (by exact rfl) (by exact rfl) ?_ | refine s_lss (by exact rfl) (by exact rfl) (by exact rfl) ?_ | refine s_add (by exact rfl) (by exact rfl) (by exact rfl) (by omega) ?_ | refine c_exit ?_ | refine k_then_exit ?_ | refine k_blk ?_ | refine k_blk_eq ?_ | (refine c_cond_p (by exact rfl) (fun h => ?_) (fun h => ?_) <;> try (exfalso; omega)) | fail
      refine c_round (j + 1) [0, 0, 0, 0, 0, 0, 0] (by exact rfl) ⟨rfl, rfl, rfl, rfl, rfl, trivial⟩ ⟨by omega, fun i' j' u' x' h1 h2 h3 h4 => ?_⟩ (by omega)
      by_cases e : i' = j
      · subst e
        rw [hu] at h3
        obtain rfl := Option.some.inj h3
        exact hqj j' x' h2 h4
      · exact hq i' j' u' x' (by omega) h2 h3 h4
  · repeat' first
      | refine k_then ?_ | refine c_seq ?_ | refine c_region ?_ | refine s_nil ?_ | refine s_assign (by exact rfl) (by exact rfl) ?_ | refine s_lss (by exact rfl) (by exact rfl) (by exact rfl) ?_ | refine c_exit ?_ | refine c_ret ?_ | refine k_then_exit ?_ | refine k_blk_eq ?_ | (refine c_cond_p (by exact rfl) (fun h => ?_) (fun h => ?_) <;> try (exfalso; omega)) | fail
    obtain rfl : i = l.length := by omega
    refine retL [.tmp 4, .tmp 5] [.int .i64 (-1), .int .i64 (-1)] [0, 0, 0, 0, 0, 0, 0] rfl ⟨res_tmp rfl, res_tmp rfl, trivial⟩ (by exact rfl) ⟨rfl, .inl ⟨rfl, fun i j u x h1 h2 h3 => hq i j u x (List.getElem?_eq_some_iff.1 h2).1 h1 h2 h3⟩⟩
end Go.Proofs.YtpajjnkmaebhcabGreat
end
section
set_option linter.unusedVariables false
namespace Go.Sl
open Go Go.RowKit Fil
def insN (l : List Nat) (b : Nat) : List Nat := if b ∈ l then l else l ++ [b]
theorem putK_insN (l : List Nat) (b : Nat) : putK (setN l) (b : Int) true = setN (insN l b) := by
  unfold insN
  split
  · rename_i h; exact putK_setN_old h
  · rename_i h; exact putK_setN h
/-- a neighbour of a vertex that becomes another one -/
def merge1 (v b : Nat) (p : List (List Nat) × List (List Nat)) (u : Nat) : List (List Nat) × List (List Nat) :=
  let A1 := p.1.set u ((p.1.getD u []).filter fun a => a ≠ v)
  let A2 := A1.set u (insN (A1.getD u []) b)
  let A3 := A2.set b (insN (A2.getD b []) u)
  (A3, pushK p.2 A3 u)
def mergeS (v b : Nat) (p : List (List Nat) × List (List Nat)) (us : List Nat) : List (List Nat) × List (List Nat) := us.foldl (merge1 v b) p
theorem mergeS_take {v b : Nat} {p : List (List Nat) × List (List Nat)} {us : List Nat} {j u : Nat} (h : us[j]? = some u) : mergeS v b p (us.take (j + 1)) = merge1 v b (mergeS v b p (us.take j)) u := by
  rw [mergeS, List.take_add_one, h, List.foldl_append]; rfl
theorem mergeS_len {v b c : Nat} : ∀ {us : List Nat} {p : List (List Nat) × List (List Nat)}, (∀ l ∈ p.2, l.length ≤ c) → (mergeS v b p us).1.length = p.1.length ∧ (mergeS v b p us).2.length = p.2.length ∧ ∀ l ∈ (mergeS v b p us).2, l.length ≤ c + us.length := by
  intro us
  induction us generalizing c with
  | nil => exact fun h => ⟨rfl, rfl, h⟩
  | cons u us ih =>
    intro p h
    obtain ⟨h1, h2, h3⟩ := ih (p := merge1 v b p u) (c := c + 1) (pushK_le h)
    refine ⟨h1.trans (by simp [merge1]), h2.trans (pushK_length _ _ _), fun l hl => ?_⟩
    have := h3 l hl
    rw [List.length_cons]; omega
end Go.Sl
namespace Go.Proofs.YtpajjnkmaebhcabGreat
open Go Go.RowKit Go.Sl Fil
set_option maxRecDepth 100000
set_option maxHeartbeats 8000000
set_option linter.unusedVariables false
set_option linter.unusedSimpArgs false
attribute [local irreducible] Code.wp wpList bodyPost wpQuiet Exit.then Exit.inBlock Post wpAnyH wpOp
theorem fmerge_ok (fb : Nat) (vn vg vst : Value) (hs fs ns : List Value) (N : Nat) (As : List (List Nat)) (gone : List Bool) (few : List (List Nat)) (st : List Stp) (v b : Nat) (l : List Nat) (w : World) (S : FS) (hsat : sats (fldL fb vn vg vst hs fs ns N As gone few st) S w) (hz : FSz N hs fs ns As few gone st) (hA : As[v]? = some l) (hll : l.length ≤ 10000) (hlN : ∀ u ∈ l, u < N) (hb : b < N) (c : Nat) (hc : ∀ l ∈ few, l.length ≤ c) (hcc : c ≤ 900000) (hst : st.length ≤ 900000) :
    Calls Tryz.prog 66 #[.pointer (some ⟨fb, 0, none⟩), .int .i64 (v : Int), .int .i64 (b : Int)] w (Post w S fun r L' => r = .tuple #[] ∧ ∃ (vst' : Value) (fs' ns' : List Value), fs'.length = 6 ∧ ns'.length = st.length + 1 ∧ L' = fldL fb vn vg vst' hs fs' ns' N (mergeS v b (As, few) (sortN l)).1 (gone.set v true) (pushK (mergeS v b (As, few) (sortN l)).2 (mergeS v b (As, few) (sortN l)).1 b) (st ++ [(v, (b : Int), [])])) := by
  obtain ⟨z1, z2, z3, z4, z5, z6, z7⟩ := hz
  have hv : v < N := by have := (List.getElem?_eq_some_iff.1 hA).1; omega
  obtain ⟨f0, f1, f2, f3, f4, f5, rfl⟩ := six z4
  refine enter (vs := [_, _, _]) Tryz.func66 rfl Tryz.ntmps66 rfl hsat ?_
  rw [fldL]
  refine know_row (v := vg) (by exact .tail _ (.tail _ (.tail _ (.head _)))) fun hvg _ => ?_
  refine know_row (v := vn) (by exact .tail _ (.head _)) fun hvn _ => ?_
  refine know_row (v := vst) (by exact .tail _ (.tail _ (.tail _ (.tail _ (.tail _ (.head _)))))) fun hvst _ => ?_
  repeat' first
    | refine c_seq ?_ | refine c_region ?_ | refine s_move (by exact rfl) (by exact rfl) ?_ | refine s_fa (by exact rfl) (by exact rfl) ?_ | refine s_ld_box (by exact rfl) (by exact rfl) (by exact .head _) (by exact rfl) ?_ | refine s_idx (by exact rfl) (by exact rfl) (by exact rfl) (by assumption) (by first | assumption | omega) ?_ | refine s_nilc (by exact rfl) (by exact rfl) ?_ | fail
  refine o_st_row (i := 3) (by exact rfl) (by exact rfl) (by exact rfl) rfl (by omega) ?_
  rw [bV_set]
  repeat' first
    | refine k_then ?_ | refine c_seq ?_ | refine c_region ?_ | refine s_nil ?_ | refine s_move (by exact rfl) (by exact rfl) ?_ | refine s_fa (by exact rfl) (by exact rfl) ?_ | refine s_ld_box (by exact rfl) (by exact rfl) (by exact .head _) (by exact rfl) ?_ | refine s_nilc (by exact rfl) (by exact rfl) ?_ | fail
  refine o_build (cs := [.int .i64 (v : Int), .int .i64 (b : Int), .slice none 0 0]) [(0, .int .i64 (v : Int), [.int .i64 (v : Int)]), (1, .int .i64 (b : Int), [.int .i64 (b : Int)]), (2, .slice none 0 0, [.slice none 0 0])] (by exact rfl) (by exact rfl) (by simp [Value.cells]) (by exact rfl) ?_
  refine o_mk (sz := 3) [.agg #[.int .i64 (v : Int), .int .i64 (b : Int), .slice none 0 0]] (by exact rfl) (by exact rfl) rfl (by simp [Value.cells]) (by simp) (by simp) fun v2 hv2 => ?_
  refine o_append_row (bytes := 40) (i := 6) (by exact rfl) (by exact rfl) (by exact rfl) (by exact rfl) (.head _) (by simp [Value.cells]) (by simp [Value.cells, Value.oneCell']) (by omega) fun vst2 hvst2 => ?_
  repeat' first
    | refine s_fa (by exact rfl) (by exact rfl) ?_ | refine s_nilc (by exact rfl) (by exact rfl) ?_ | fail
  refine o_st_box (i := 1) (by exact rfl) (by exact rfl) (by exact rfl) hvst2.one (by simp) ?_
  repeat' first
    | refine k_then ?_ | refine c_seq ?_ | refine c_region ?_ | refine s_nil ?_ | refine s_move (by exact rfl) (by exact rfl) ?_ | fail
  refine c_nil 3 1 ?_
  refine c_pick [0, 1, 1, 1, 1, 1, 1, 1] (by exact rfl) ?_
  refine c_pushk 6 (by exact rfl) ?_
  have hE : rowHP vst2 68 3 (st.length + 1) (stpV st ns ++ [.int .i64 (v : Int), .int .i64 (b : Int), .slice none 0 0]) = rowHP vst2 68 3 (st ++ [(v, (b : Int), [])]).length (stpV (st ++ [(v, (b : Int), [])]) (ns ++ [.slice none 0 0])) := by rw [stpV_snoc z6.symm, List.length_append]; rfl
  have hK : kids rowN ns (st.map fun s : Stp => s.2.2) ++ [rowHP (.slice none 0 0) 3 1 0 []] = kids rowN (ns ++ [.slice none 0 0]) ((st ++ [(v, (b : Int), [])]).map fun s : Stp => s.2.2) := by
    rw [List.map_append, show [(v, (b : Int), ([] : List Nat))].map (fun s : Stp => s.2.2) = [[]] from rfl, kids_append (by simpa using z6)]; rfl
  have hz1 : FSz N hs [f0, f1, f2, f3, f4, f5] (ns ++ [.slice none 0 0]) As few (gone.set v true) (st ++ [(v, (b : Int), [])]) := ⟨z1, z2, by simp [z3], z4, z5, by simp [z6], z7⟩
  refine s_lend (vs := [.pointer (some ⟨fb, 0, none⟩), .int .i64 (v : Int)]) (fldL fb vn vg vst2 hs [f0, f1, f2, f3, f4, f5] (ns ++ [.slice none 0 0]) N As (gone.set v true) few (st ++ [(v, (b : Int), [])])) [] (by rw [List.append_nil, fldL, ← hE, ← hK]; exact rfl) (by exact rfl) (by exact rfl) (fun w S h => fneigh_ok fb vn vg vst2 hs _ _ N As _ few _ v l w S h.own hz1 hA (by omega)) ?_
  rintro nv _ rfl
  have hsl := (sortN_perm l).length_eq
  rw [List.append_nil, ← hsl]
  refine know_row (v := nv) (.head _) fun hnv _ => ?_
  repeat' first
    | refine k_then ?_ | refine s_nil ?_ | refine s_move (by exact rfl) (by exact rfl) ?_ | refine s_len (by exact rfl) (by exact rfl) (by assumption) ?_ | refine c_block ?_ | fail
  have hlt : ∀ j, (mergeS v b (As, few) ((sortN l).take j)).1.length = N ∧ (mergeS v b (As, few) ((sortN l).take j)).2.length = 6 ∧ ∀ x ∈ (mergeS v b (As, few) ((sortN l).take j)).2, x.length ≤ c + ((sortN l).take j).length := fun j => by
    obtain ⟨a, b, d⟩ := mergeS_len (v := v) (b := b) (us := (sortN l).take j) (p := (As, few)) hc
    exact ⟨a.trans z1, b.trans z5, d⟩
  refine c_loop (fun x : Nat × List Value => x.1 ≤ (sortN l).length ∧ x.2.length = 6) (fun x => [(0, .pointer (some ⟨fb, 0, none⟩)), (1, .int .i64 (v : Int)), (2, .int .i64 (b : Int)), (28, nv), (29, .int .i64 ((sortN l).length : Int)), (30, .int .i64 (x.1 : Int))])
    (fun x => fldL fb vn vg vst2 hs x.2 (ns ++ [.slice none 0 0]) N (mergeS v b (As, few) ((sortN l).take x.1)).1 (gone.set v true) (mergeS v b (As, few) ((sortN l).take x.1)).2 (st ++ [(v, (b : Int), [])]) ++ [rowHP nv 3 1 (sortN l).length (nV (sortN l))]) (fun x => (sortN l).length - x.1) (0, [f0, f1, f2, f3, f4, f5]) [1, 1, 1, 1, 1, 1, 1, 0] ⟨Nat.zero_le _, rfl⟩ (by exact rfl) ⟨rfl, rfl, rfl, rfl, rfl, rfl, trivial⟩ ?_
  rintro ⟨j, gs⟩ ⟨hj, hgs⟩
  dsimp only at hj hgs ⊢
  obtain ⟨y1, y2, y3⟩ := hlt j
  by_cases hjl : j < (sortN l).length
  · obtain ⟨u, hu⟩ : ∃ u, (sortN l)[j]? = some u := ⟨_, List.getElem?_eq_getElem hjl⟩
    have huN := hlN u ((sortN_perm l).mem_iff.1 (List.mem_of_getElem? hu))
    have htk := mergeS_take (v := v) (b := b) (p := (As, few)) hu
    generalize hBB : mergeS v b (As, few) ((sortN l).take j) = B at *
    obtain ⟨m, hm⟩ : ∃ m, B.1[u]? = some m := ⟨_, List.getElem?_eq_getElem (by omega)⟩
    have hmD : B.1.getD u [] = m := by rw [List.getD_eq_getElem?_getD, hm]; rfl
    rw [merge1] at htk
    rw [hmD] at htk
    generalize hA1 : B.1.set u (m.filter fun a => a ≠ v) = A1 at *
    have hA1l : A1.length = N := by rw [← hA1]; simp [y1]
    have hm1 : A1[u]? = some (A1.getD u []) := by rw [List.getD_eq_getElem?_getD, List.getElem?_eq_getElem (by omega)]; rfl
    generalize A1.getD u [] = m1 at *
    generalize hA2 : A1.set u (insN m1 b) = A2 at *
    have hA2l : A2.length = N := by rw [← hA2]; simp [hA1l]
    have hm2 : A2[b]? = some (A2.getD b []) := by rw [List.getD_eq_getElem?_getD, List.getElem?_eq_getElem (by omega)]; rfl
    generalize A2.getD b [] = m2 at *
    generalize hA3 : A2.set b (insN m2 u) = A3 at *
    have hA3l : A3.length = N := by rw [← hA3]; simp [hA2l]
    obtain ⟨hu0, hhu⟩ : ∃ hd, hs[u]? = some hd := ⟨_, List.getElem?_eq_getElem (by omega)⟩
    have hhu1 : hs[u * 1]? = some hu0 := by simpa using hhu
    obtain ⟨hb0, hhb⟩ : ∃ hd, hs[b]? = some hd := ⟨_, List.getElem?_eq_getElem (by omega)⟩
    have hhb1 : hs[b * 1]? = some hb0 := by simpa using hhb
    have hku : (kids mapK hs (B.1.map some))[u]? = some (mapHP ekI Value.bool okI hu0 (setN m)) := by
      rw [kids_get (l := some m) hhu (by rw [List.getElem?_map, hm]; rfl)]; rfl
    have hku1 : (kids mapK hs (A1.map some))[u]? = some (mapHP ekI Value.bool okI hu0 (setN m1)) := by
      rw [kids_get (l := some m1) hhu (by rw [List.getElem?_map, hm1]; rfl)]; rfl
    have hkb : (kids mapK hs (A2.map some))[b]? = some (mapHP ekI Value.bool okI hb0 (setN m2)) := by
      rw [kids_get (l := some m2) hhb (by rw [List.getElem?_map, hm2]; rfl)]; rfl
    have hput : ∀ (B A : List (List Nat)) (h : Value) (u : Nat) (q : List Nat), hs[u]? = some h → B.set u q = A → (((kids mapK hs (B.map some)).set u empHP).set u (mapHP ekI Value.bool okI h (setN q))) = kids mapK hs (A.map some) := fun B A h u q h1 h2 => by
      rw [List.set_set, show (mapHP ekI Value.bool okI h (setN q)) = mapK h (some q) from rfl, kids_put2 h1, ← List.map_set, h2]
    have hjv : (nV (sortN l))[j * 1]? = some (.int .i64 (u : Int)) := by rw [Nat.mul_one, nV, List.getElem?_map, hu]; rfl
    rw [fldL]
    repeat' first
      | refine k_then ?_ | refine c_seq ?_ | refine c_region ?_ | refine s_nil ?_ | refine s_move (by exact rfl) (by exact rfl) ?_ | refine s_assign (by exact rfl) (by exact rfl) ?_ | refine s_fa (by exact rfl) (by exact rfl) ?_ | refine s_ld_box (by exact rfl) (by exact rfl) (by exact .head _) (by exact rfl) ?_ | refine s_lss (by exact rfl) (by exact rfl) (by exact rfl) ?_ | refine s_idx (by exact rfl) (by exact rfl) (by exact rfl) (by assumption) (by first | assumption | omega) ?_ | refine s_ld_row (by exact rfl) (by exact rfl) (by first | exact .tail _ (.head _) | exact .tail _ (.tail _ (.tail _ (.tail _ (.tail _ (.tail _ (.tail _ (.head _)))))))) (by assumption) ?_ | refine c_block ?_ | refine c_skip ?_ | (refine c_cond_p (by exact rfl) (fun h => ?_) (fun h => ?_) <;> try (exfalso; omega)) | refine s_nilc (by exact rfl) (by exact rfl) ?_ | fail
    refine c_take 2 u (by exact rfl) hku ?_
    refine o_del (v : Int) (i := 0) (by exact rfl) (by exact rfl) (by exact rfl) rfl ⟨by omega, by omega⟩ ?_
    rw [delK_setN]
    repeat' first
      | refine k_then ?_ | refine c_seq ?_ | refine c_region ?_ | refine s_nil ?_ | refine s_move (by exact rfl) (by exact rfl) ?_ | refine s_fa (by exact rfl) (by exact rfl) ?_ | refine s_ld_box (by exact rfl) (by exact rfl) (by exact .tail _ (.head _)) (by exact rfl) ?_ | refine s_idx (by exact rfl) (by exact rfl) (by exact rfl) (by assumption) (by first | assumption | omega) ?_ | refine s_ld_row (by exact rfl) (by exact rfl) (by exact .tail _ (.tail _ (.head _))) (by assumption) ?_ | refine s_nilc (by exact rfl) (by exact rfl) ?_ | fail
    refine c_give 2 u (by exact rfl) (by simp [kids]; omega) ?_
    rw [hput _ _ _ _ _ hhu hA1]
    skip
    refine c_take 2 u (by exact rfl) hku1 ?_
    refine o_mapup (ek := ekI) (ev := Value.bool) (ok := okI) (i := 0) (b : Int) true (by exact rfl) (by exact rfl) (by exact rfl) (by exact rfl) rfl rfl ⟨by omega, by omega⟩ ?_
    rw [putK_insN]
    repeat' first
      | refine k_then ?_ | refine c_seq ?_ | refine c_region ?_ | refine s_nil ?_ | refine s_move (by exact rfl) (by exact rfl) ?_ | refine s_fa (by exact rfl) (by exact rfl) ?_ | refine s_ld_box (by exact rfl) (by exact rfl) (by exact .tail _ (.head _)) (by exact rfl) ?_ | refine s_idx (by exact rfl) (by exact rfl) (by exact rfl) (by assumption) (by first | assumption | omega) ?_ | refine s_ld_row (by exact rfl) (by exact rfl) (by exact .tail _ (.tail _ (.head _))) (by assumption) ?_ | refine s_nilc (by exact rfl) (by exact rfl) ?_ | fail
    refine c_give 2 u (by exact rfl) (by simp [kids]; omega) ?_
    rw [hput _ _ _ _ _ hhu hA2]
    skip
    refine c_take 2 b (by exact rfl) hkb ?_
    refine o_mapup (ek := ekI) (ev := Value.bool) (ok := okI) (i := 0) (u : Int) true (by exact rfl) (by exact rfl) (by exact rfl) (by exact rfl) rfl rfl ⟨by omega, by omega⟩ ?_
    rw [putK_insN]
    repeat' first
      | refine k_then ?_ | refine c_region ?_ | refine s_nil ?_ | refine s_move (by exact rfl) (by exact rfl) ?_ | fail
    refine c_give 2 b (by exact rfl) (by simp [kids]; omega) ?_
    rw [hput _ _ _ _ _ hhb hA3]
    have hz2 : FSz N hs gs (ns ++ [.slice none 0 0]) A3 B.2 (gone.set v true) (st ++ [(v, (b : Int), [])]) := ⟨hA3l, z2, by simp [z3], hgs, y2, by simp [z6], z7⟩
    refine s_lend (vs := [.pointer (some ⟨fb, 0, none⟩), .int .i64 (u : Int)]) (fldL fb vn vg vst2 hs gs (ns ++ [.slice none 0 0]) N A3 (gone.set v true) B.2 (st ++ [(v, (b : Int), [])])) [rowHP nv 3 1 (sortN l).length (nV (sortN l))] (by exact rfl) (by exact rfl) (by exact rfl) (fun w S h => fsort_ok fb vn vg vst2 hs gs (ns ++ [.slice none 0 0]) N _ _ _ _ u w S h.own hz2 huN fun x hx => by have := y3 x hx; have h9 := List.length_take_le j (sortN l); omega) ?_
    rintro _ _ ⟨rfl, gs2, hg2, rfl⟩
    repeat' first
      | refine k_then ?_ | refine c_region ?_ | refine s_nil ?_ | refine s_move (by exact rfl) (by exact rfl) ?_ | refine s_add (by exact rfl) (by exact rfl) (by exact rfl) (by omega) ?_ | refine k_blk ?_ | fail
    refine c_round (j + 1, gs2) [0, 0, 0, 0, 0, 0, 0, 0] (by dsimp only; rw [htk]; exact rfl) ⟨rfl, rfl, rfl, rfl, rfl, rfl, trivial⟩ ⟨by dsimp only; omega, hg2⟩ (by dsimp only; omega)
  · obtain rfl : j = (sortN l).length := by omega
    rw [List.take_length] at y1 y2 y3 ⊢
    repeat' first
      | refine k_then ?_ | refine c_seq ?_ | refine c_region ?_ | refine s_nil ?_ | refine s_move (by exact rfl) (by exact rfl) ?_ | refine s_lss (by exact rfl) (by exact rfl) (by exact rfl) ?_ | refine c_exit ?_ | refine k_then_exit ?_ | refine k_blk_eq ?_ | (refine c_cond_p (by exact rfl) (fun h => ?_) (fun h => ?_) <;> try (exfalso; omega)) | fail
    have hz2 : FSz N hs gs (ns ++ [.slice none 0 0]) (mergeS v b (As, few) (sortN l)).1 (mergeS v b (As, few) (sortN l)).2 (gone.set v true) (st ++ [(v, (b : Int), [])]) := ⟨y1, z2, by simp [z3], hgs, y2, by simp [z6], z7⟩
    refine s_lend (vs := [.pointer (some ⟨fb, 0, none⟩), .int .i64 (b : Int)]) (fldL fb vn vg vst2 hs gs (ns ++ [.slice none 0 0]) N (mergeS v b (As, few) (sortN l)).1 (gone.set v true) (mergeS v b (As, few) (sortN l)).2 (st ++ [(v, (b : Int), [])])) [rowHP nv 3 1 (sortN l).length (nV (sortN l))] (by exact rfl) (by exact rfl) (by exact rfl) (fun w S h => fsort_ok fb vn vg vst2 hs gs (ns ++ [.slice none 0 0]) N _ _ _ _ b w S h.own hz2 hb fun x hx => by have := y3 x hx; omega) ?_
    rintro _ _ ⟨rfl, gs2, hg2, rfl⟩
    repeat' first
      | refine s_nil ?_ | fail
    refine ret0 [0, 0, 0, 0, 0, 0, 0] rfl (by exact rfl) ⟨rfl, vst2, gs2, ns ++ [.slice none 0 0], hg2, by simp [z6], rfl⟩
end Go.Proofs.YtpajjnkmaebhcabGreat
end
section
set_option linter.unusedVariables false
namespace Go.Sl
open Go Go.RowKit Fil
section
variable {P : Program} {w0 : World} {S0 : FS} {n : Nat} {F : List (Nat × Value)} {L Lk : List HP} {o : Oper} {x y : Operand} {t e : TypeId} {rest : List Oper} {ops : Array Oper} {Q : Exit → Act → World → Prop} {d i : Nat} {ty : TypeId} {ps : String} {af : Array Edge} {plan : List PI} {len : Nat} {v : Value} {cs : Array Value}
theorem q_ixar [T : ArTy P t len e 1] [S : ScTy P e] (j : Nat) (ho : o.op = .index t x y) (hx : ev F x = some (.agg cs)) (hy : ev F y = some (.int .i64 (j : Int))) (hj : j < len) (hc : cs[j]? = some v) : R1 P w0 S0 n F L o v :=
  q_of_pure fun a hf w => by
    have hx' := hf.eval hx
    simp [execOp, ho, hx', hf.eval hy, Instr.index, asIntOf, run_underlying T.u, T.size, part, S.agg, hc, hj]
theorem s_ixar [T : ArTy P t len e 1] [S : ScTy P e] (j : Nat) (hn : Nat.blt d n = true) (hx : ev F x = some (.agg cs)) (hy : ev F y = some (.int .i64 (j : Int))) (hj : j < len) (hc : cs[j]? = some v) (h : Reach w0 S0 n ((d, v) :: F) L (wpList P ops Q rest)) : Reach w0 S0 n F L (wpList P ops Q (⟨some d, .index t x y, ty, ps, af, none⟩ :: rest)) := s_q rfl rfl hn (q_ixar j rfl hx hy hj hc).q h
end
/-- is there, with so many neighbours -/
def validV (gone : List Bool) (As : List (List Nat)) (d u : Nat) : Prop := gone.getD u false = false ∧ (As.getD u []).length = d
end Go.Sl
namespace Go.Proofs.YtpajjnkmaebhcabGreat
open Go Go.RowKit Go.Sl Fil
set_option maxRecDepth 100000
set_option maxHeartbeats 8000000
set_option linter.unusedVariables false
set_option linter.unusedSimpArgs false
attribute [local irreducible] Code.wp wpList bodyPost wpQuiet Exit.then Exit.inBlock Post wpAnyH wpOp
theorem ftake_ok (fb : Nat) (vn vg vst : Value) (hs fs ns : List Value) (N : Nat) (As : List (List Nat)) (gone : List Bool) (few : List (List Nat)) (st : List Stp) (w : World) (S : FS) (hsat : sats (fldL fb vn vg vst hs fs ns N As gone few st) S w) (hz : FSz N hs fs ns As few gone st) (hfN : ∀ l ∈ few, ∀ u ∈ l, u < N) :
    Calls Tryz.prog 62 #[.pointer (some ⟨fb, 0, none⟩)] w (Post w S fun r L' => ∃ (fs' : List Value) (few' : List (List Nat)), fs'.length = 6 ∧ few'.length = 6 ∧ (∀ d, few'.getD d [] <+: few.getD d []) ∧ L' = fldL fb vn vg vst hs fs' ns N As gone few' st ∧
      ((r = .tuple #[.int .i64 0, .bool false] ∧ ∀ d, d < 6 → ∀ u ∈ few.getD d [], ¬ validV gone As d u) ∨ ∃ (v d0 : Nat), r = .tuple #[.int .i64 (v : Int), .bool true] ∧ d0 < 6 ∧ v ∈ few.getD d0 [] ∧ validV gone As d0 v ∧ ∀ d, d < 6 → ∀ u ∈ few.getD d [], validV gone As d u → u = v ∨ u ∈ few'.getD d [])) := by
  obtain ⟨z1, z2, z3, z4, z5, z6, z7⟩ := hz
  obtain ⟨f0, f1, f2, f3, f4, f5, rfl⟩ := six z4
  refine enter (vs := [_]) Tryz.func62 rfl Tryz.ntmps62 rfl hsat ?_
  rw [fldL]
  refine know_row (v := vn) (by exact .tail _ (.head _)) fun hvn _ => ?_
  refine know_row (v := vg) (by exact .tail _ (.tail _ (.tail _ (.head _)))) fun hvg _ => ?_
  repeat' first
    | refine k_then ?_ | refine c_seq ?_ | refine c_region ?_ | refine s_nil ?_ | refine s_move (by exact rfl) (by exact rfl) ?_ | refine s_assign (by exact rfl) (by exact rfl) ?_ | refine s_fa (by exact rfl) (by exact rfl) ?_ | refine s_ldk_box (by exact rfl) (by exact rfl) (by exact .head _) (by exact rfl) (by exact rfl) ?_ | refine c_block ?_ | refine s_nilc (by exact rfl) (by exact rfl) ?_ | fail
  refine c_loop (fun x : Nat × List Value × List (List Nat) => x.1 ≤ 6 ∧ x.2.1.length = 6 ∧ x.2.2.length = 6 ∧ (∀ d, x.1 ≤ d → x.2.1[d]? = [f0, f1, f2, f3, f4, f5][d]? ∧ x.2.2[d]? = few[d]?) ∧ (∀ d, x.2.2.getD d [] <+: few.getD d []) ∧ ∀ d, d < x.1 → ∀ u ∈ few.getD d [], ¬ validV gone As d u) (fun x => [(0, .pointer (some ⟨fb, 0, none⟩)), (2, .int .i64 0), (3, .bool false), (10, .agg #[f0, f1, f2, f3, f4, f5]), (11, .int .i64 (x.1 : Int))])
    (fun x => fldL fb vn vg vst hs x.2.1 ns N As gone x.2.2 st) (fun x => 6 - x.1) (0, [f0, f1, f2, f3, f4, f5], few) [0, 0, 0, 0, 0, 0, 0] ⟨by dsimp only; omega, rfl, z5, fun d _ => ⟨rfl, rfl⟩, fun d => List.prefix_refl _, fun d h => by dsimp only at h; omega⟩ (by exact rfl) ⟨rfl, rfl, rfl, rfl, rfl, trivial⟩ ?_
  rintro ⟨d, gs, gw⟩ ⟨hd, hgs, hgw, hsame, hpre, hinv⟩
  dsimp only at hd hgs hgw hsame hpre hinv ⊢
  by_cases hd6 : d < 6
  · obtain ⟨hsd1, hsd2⟩ := hsame d (Nat.le_refl _)
    obtain ⟨fd, hfd⟩ : ∃ fd, [f0, f1, f2, f3, f4, f5][d]? = some fd := ⟨_, List.getElem?_eq_getElem (by simpa using hd6)⟩
    have hfa : (#[f0, f1, f2, f3, f4, f5] : Array Value)[d]? = some fd := by simpa using hfd
    obtain ⟨l, hl⟩ : ∃ l, few[d]? = some l := ⟨_, List.getElem?_eq_getElem (by omega)⟩
    have hlD : few.getD d [] = l := by rw [List.getD_eq_getElem?_getD, hl]; rfl
    have hlN := hfN l (List.mem_of_getElem? hl)
    rw [hfd] at hsd1
    rw [hl] at hsd2
    have hgsd : gs.set d fd = gs := set_self hsd1
    have hgwd : gw.set d (l.take l.length) = gw := by rw [List.take_length]; exact set_self hsd2
    repeat' first
      | refine k_then ?_ | refine c_seq ?_ | refine c_region ?_ | refine s_nil ?_ | refine s_move (by exact rfl) (by exact rfl) ?_ | refine s_lss (by exact rfl) (by exact rfl) (by exact rfl) ?_ | refine c_block ?_ | refine c_skip ?_ | (refine c_cond_p (by exact rfl) (fun h => ?_) (fun h => ?_) <;> try (exfalso; omega)) | fail
    refine s_ixar d (by exact rfl) (by exact rfl) (by exact rfl) hd6 hfa ?_
    repeat' first
      | refine k_then ?_ | refine s_nil ?_ | refine s_assign (by exact rfl) (by exact rfl) ?_ | refine c_block ?_ | fail
    refine c_loop (fun x : Nat × Value => x.1 ≤ l.length ∧ ∀ u ∈ l.drop x.1, ¬ validV gone As d u) (fun x => [(0, .pointer (some ⟨fb, 0, none⟩)), (2, .int .i64 0), (3, .bool false), (4, .int .i64 (d : Int)), (5, x.2), (10, .agg #[f0, f1, f2, f3, f4, f5]), (11, .int .i64 (d : Int))])
      (fun x => fldL fb vn vg vst hs (gs.set d x.2) ns N As gone (gw.set d (l.take x.1)) st) (fun x => x.1) (l.length, fd) [0, 0, 0, 0, 0, 0, 0] ⟨Nat.le_refl _, by simp⟩ (by dsimp only; rw [hgsd, hgwd]; exact rfl) ⟨rfl, rfl, rfl, rfl, rfl, rfl, rfl, trivial⟩ ?_
    rintro ⟨m, vd⟩ ⟨hm, hmi⟩
    dsimp only at hm hmi ⊢
    have hk1 : (gs.set d vd)[d]? = some vd := by rw [List.getElem?_set, if_pos rfl, if_pos (by omega)]
    have hk2 : (gw.set d (l.take m))[d]? = some (l.take m) := by rw [List.getElem?_set, if_pos rfl, if_pos (by omega)]
    have hkid : rowHP vd 3 1 (l.take m).length (nV (l.take m)) ∈ kids rowN (gs.set d vd) (gw.set d (l.take m)) := kids_mem (f := rowN) hk1 hk2
    have htl : (l.take m).length = m := by rw [List.length_take]; omega
    rw [fldL]
    refine know_kid (by exact .tail _ (.tail _ (.tail _ (.tail _ (.head _))))) hkid fun hvd _ => ?_
    rw [htl] at hvd
    have hvm := hvd.1
    simp only [maxLen] at hvm
    by_cases h0 : 0 < m
    · obtain ⟨m, rfl⟩ : ∃ k, m = k + 1 := ⟨m - 1, by omega⟩
      obtain ⟨u, hu⟩ : ∃ u, l[m]? = some u := ⟨_, List.getElem?_eq_getElem (by omega)⟩
      have huN := hlN u (List.mem_of_getElem? hu)
      have hcell : (nV (l.take (m + 1)))[(((m + 1 : Nat) : Int) - 1).toNat * 1]? = some (.int .i64 (u : Int)) := by
        rw [show (((m + 1 : Nat) : Int) - 1).toNat * 1 = m by omega, nV, List.getElem?_map, List.getElem?_take, if_pos (by omega), hu]; rfl
      have hcut : cutV vd 1 0 (((m + 1 : Nat) : Int) - 1).toNat = cutV vd 1 0 m := by rw [show (((m + 1 : Nat) : Int) - 1).toNat = m by omega]
      have hAu : As[u]? = some (As.getD u []) := by rw [List.getD_eq_getElem?_getD, List.getElem?_eq_getElem (by omega)]; rfl
      obtain ⟨hd0, hhd⟩ : ∃ hd, hs[u]? = some hd := ⟨_, List.getElem?_eq_getElem (by omega)⟩
      have hhd1 : hs[u * 1]? = some hd0 := by simpa using hhd
      have hkv : mapHP? ekI Value.bool okI hd0 (some (setN (As.getD u []))) ∈ kids mapK hs (As.map some) := by
        refine List.mem_of_getElem? (i := u) ?_
        rw [kids_get (l := some (As.getD u [])) hhd (by rw [List.getElem?_map, hAu]; rfl)]; rfl
      have hsl := setN_length (As.getD u [])
      have hgn := bV_get (l := gone) (k := u) (by omega)
      have hmm : m ≤ (l.take (m + 1)).length := by omega
      repeat' first
        | refine k_then ?_ | refine c_seq ?_ | refine c_region ?_ | refine s_nil ?_ | refine s_move (by exact rfl) (by exact rfl) ?_ | refine s_assign (by exact rfl) (by exact rfl) ?_ | refine s_fa (by exact rfl) (by exact rfl) ?_ | refine s_gtr (by exact rfl) (by exact rfl) (by exact rfl) ?_ | refine s_sub (by exact rfl) (by exact rfl) (by exact rfl) (by omega) ?_ | refine s_len (by exact rfl) (by exact rfl) (by assumption) ?_ | refine s_idxi (by exact rfl) (by exact rfl) (by exact rfl) (by assumption) (by first | assumption | omega) ?_ | refine s_ld_kid (by exact rfl) (by exact rfl) (by assumption) (by exact .tail _ (.tail _ (.tail _ (.tail _ (.head _))))) (by assumption) ?_ | refine s_cut_hi (by exact rfl) (by exact rfl) (by exact rfl) (by assumption) (by omega) ?_ | refine c_block ?_ | refine c_skip ?_ | (refine c_cond_p (by exact rfl) (fun h => ?_) (fun h => ?_) <;> try (exfalso; omega)) | refine s_nilc (by exact rfl) (by exact rfl) ?_ | fail
      refine s_ibox d (by exact rfl) (by exact rfl) (by exact rfl) hd6 (by decide) ?_
      skip
      rw [hcut]
      have hvc := Shp.cut (sz := 1) hvd (Nat.zero_le m) (by omega)
      refine o_st_box (i := 0) (by exact rfl) (by exact rfl) (by exact rfl) hvc.one (by simp; omega) ?_
      rw [cells_set (by simp; omega)]
      refine c_take 4 d (by exact rfl) (kids_get hk1 hk2) ?_
      refine c_cutrow 0 0 m (by exact rfl) (Nat.zero_le _) hmm ?_
      refine c_give 4 d (by exact rfl) (by simp [kids]; omega) ?_
      generalize hvv : cutV vd 1 0 m = vd2 at *
      have hK : ((kids rowN (gs.set d vd) (gw.set d (l.take (m + 1)))).set d empHP).set d (rowHP vd2 3 1 (m - 0) (((nV (l.take (m + 1))).drop (0 * 1)).take ((m - 0) * 1))) = kids rowN (gs.set d vd2) (gw.set d (l.take m)) := by
        have e1 : rowHP vd2 3 1 (m - 0) (((nV (l.take (m + 1))).drop (0 * 1)).take ((m - 0) * 1)) = rowN vd2 (l.take m) := by
          rw [rowN, Nat.zero_mul, List.drop_zero, Nat.sub_zero, Nat.mul_one, nV, nV, ← List.map_take, List.take_take, Nat.min_eq_left (by omega), List.length_take, Nat.min_eq_left (by omega)]
        rw [e1, kids_set, List.set_set, List.set_set]
      rw [hK, show (gs.set d vd).set d vd2 = gs.set d vd2 from List.set_set ..]
      refine c_pick [0, 0, 0, 0, 0, 0, 0] (by exact rfl) ?_
      have hdrop : ∀ x ∈ l.drop m, x = u ∨ x ∈ l.drop (m + 1) := fun x hx => by
        rw [List.drop_eq_getElem_cons (show m < l.length by omega), (List.getElem?_eq_some_iff.1 hu).2] at hx
        exact List.mem_cons.1 hx
      cases hg : gone.getD u false
      · rw [hg] at hgn

        repeat' first
          | refine k_then ?_ | refine c_seq ?_ | refine c_region ?_ | refine s_nil ?_ | refine s_move (by exact rfl) (by exact rfl) ?_ | refine s_assign (by exact rfl) (by exact rfl) ?_ | refine s_fa (by exact rfl) (by exact rfl) ?_ | refine s_ld_box (by exact rfl) (by exact rfl) (by exact .head _) (by exact rfl) ?_ | refine s_not (by exact rfl) (by exact rfl) ?_ | refine s_idx (by exact rfl) (by exact rfl) (by exact rfl) (by assumption) (by first | assumption | omega) ?_ | refine s_pick_t (by exact rfl) (by exact rfl) (by exact rfl) ?_ | refine s_ld_row (by exact rfl) (by exact rfl) (by exact .tail _ (.tail _ (.tail _ (.head _)))) (by assumption) ?_ | refine c_skip ?_ | refine c_ret ?_ | refine k_then_ret ?_ | refine k_blk ?_ | refine k_blk_ret ?_ | (refine c_cond_p (by exact rfl) (fun h => ?_) (fun h => ?_) <;> try (exfalso; omega)) | refine w_move (by exact rfl) (by exact rfl) (by exact rfl) (by exact rfl) ?_ | refine w_fa (by exact rfl) (by exact rfl) (by exact rfl) (by exact rfl) ?_ | refine w_ld_box (by exact rfl) (by exact rfl) (by exact rfl) (by exact rfl) (by exact .head _) (by exact rfl) ?_ | refine w_eql (by exact rfl) (by exact rfl) (by exact rfl) (by exact rfl) (by exact rfl) ?_ | refine w_lenm_kid (by exact rfl) (by exact rfl) (by exact rfl) (by exact rfl) (by assumption) (by exact .tail _ (.tail _ (.head _))) ?_ | refine w_idx (by exact rfl) (by exact rfl) (by exact rfl) (by exact rfl) (by exact rfl) (by assumption) (by first | assumption | omega) ?_ | refine w_ld_row (by exact rfl) (by exact rfl) (by exact rfl) (by exact rfl) (by exact .tail _ (.head _)) (by assumption) ?_ | refine g_on (by exact rfl) (by exact rfl) ?_ | refine s_nilc (by exact rfl) (by exact rfl) ?_ | fail
        · have hv2 : validV gone As d u := ⟨hg, by omega⟩
          refine retL [.tmp 2, .tmp 3] [.int .i64 (u : Int), .bool true] [0, 0, 0, 0, 0, 0, 0] rfl ⟨res_tmp rfl, res_tmp rfl, trivial⟩ (by exact rfl) ⟨gs.set d vd2, gw.set d (l.take m), by simpa using hgs, by simpa using hgw, fun k => ?_, rfl, .inr ⟨u, d, rfl, hd6, by rw [hlD]; exact List.mem_of_getElem? hu, hv2, fun k hk x hx hxv => ?_⟩⟩
          · by_cases e : k = d
            · subst e
              rw [hlD, List.getD_eq_getElem?_getD, List.getElem?_set, if_pos rfl, if_pos (by omega)]
              exact List.take_prefix _ _
            · rw [List.getD_eq_getElem?_getD, List.getElem?_set_ne (Ne.symm e), ← List.getD_eq_getElem?_getD]
              exact hpre k
          · by_cases e : k = d
            · subst e
              rw [hlD, ← List.take_append_drop m l] at hx
              rcases List.mem_append.1 hx with hx | hx
              · right
                rw [List.getD_eq_getElem?_getD, List.getElem?_set, if_pos rfl, if_pos (by omega)]
                exact hx
              · rcases hdrop x hx with e2 | hx
                · exact .inl e2
                · exact absurd hxv (hmi x hx)
            · right
              by_cases hkd : k < d
              · exact absurd hxv (hinv k hkd x hx)
              · obtain ⟨_, h2⟩ := hsame k (by omega)
                rw [List.getD_eq_getElem?_getD, List.getElem?_set_ne (Ne.symm e), h2, ← List.getD_eq_getElem?_getD]
                exact hx
        · refine c_round (m, vd2) [0, 0, 0, 0, 0, 0, 0] (by exact rfl) ⟨rfl, rfl, rfl, rfl, rfl, rfl, rfl, trivial⟩ ⟨by dsimp only; omega, fun x hx => ?_⟩ (by dsimp only; omega)
          rcases hdrop x hx with rfl | hx
          · rintro ⟨_, h3⟩; omega
          · exact hmi x hx
      · rw [hg] at hgn
        repeat' first
          | refine k_then ?_ | refine c_seq ?_ | refine c_region ?_ | refine s_nil ?_ | refine s_move (by exact rfl) (by exact rfl) ?_ | refine s_fa (by exact rfl) (by exact rfl) ?_ | refine s_ld_box (by exact rfl) (by exact rfl) (by exact .head _) (by exact rfl) ?_ | refine s_not (by exact rfl) (by exact rfl) ?_ | refine s_idx (by exact rfl) (by exact rfl) (by exact rfl) (by assumption) (by first | assumption | omega) ?_ | refine s_pick_f (by exact rfl) (by exact rfl) (by exact rfl) ?_ | refine s_ld_row (by exact rfl) (by exact rfl) (by exact .tail _ (.tail _ (.tail _ (.head _)))) (by assumption) ?_ | refine c_skip ?_ | refine k_blk ?_ | refine c_cond_f (by exact rfl) ?_ | refine g_skip (by exact rfl) (by exact rfl) (by exact rfl) (by exact rfl) ?_ | refine s_nilc (by exact rfl) (by exact rfl) ?_ | fail
        refine c_round (m, vd2) [0, 0, 0, 0, 0, 0, 0] (by exact rfl) ⟨rfl, rfl, rfl, rfl, rfl, rfl, rfl, trivial⟩ ⟨by dsimp only; omega, fun x hx => ?_⟩ (by dsimp only; omega)
        rcases hdrop x hx with rfl | hx
        · rintro ⟨h3, _⟩; rw [hg] at h3; cases h3
        · exact hmi x hx
    · obtain rfl : m = 0 := by omega
      repeat' first
        | refine k_then ?_ | refine c_seq ?_ | refine c_region ?_ | refine s_nil ?_ | refine s_move (by exact rfl) (by exact rfl) ?_ | refine s_gtr (by exact rfl) (by exact rfl) (by exact rfl) ?_ | refine s_add (by exact rfl) (by exact rfl) (by exact rfl) (by omega) ?_ | refine s_len (by exact rfl) (by exact rfl) (by assumption) ?_ | refine c_exit ?_ | refine k_then_exit ?_ | refine k_blk ?_ | refine k_blk_eq ?_ | (refine c_cond_p (by exact rfl) (fun h => ?_) (fun h => ?_) <;> try (exfalso; omega)) | fail
      refine c_round (d + 1, gs.set d vd, gw.set d (l.take 0)) [0, 0, 0, 0, 0, 0, 0] (by exact rfl) ⟨rfl, rfl, rfl, rfl, rfl, trivial⟩ ⟨by dsimp only; omega, by simpa using hgs, by simpa using hgw, fun k hk => ?_, fun k => ?_, fun k hk u hu => ?_⟩ (by dsimp only; omega)
      · dsimp only at hk ⊢
        obtain ⟨h1, h2⟩ := hsame k (by omega)
        rw [List.getElem?_set_ne (by omega), List.getElem?_set_ne (by omega)]
        exact ⟨h1, h2⟩
      · dsimp only
        by_cases e : k = d
        · subst e
          rw [List.getD_eq_getElem?_getD, List.getElem?_set, if_pos rfl, if_pos (by omega)]
          exact List.nil_prefix
        · rw [List.getD_eq_getElem?_getD, List.getElem?_set_ne (Ne.symm e), ← List.getD_eq_getElem?_getD]
          exact hpre k
      · dsimp only at hk
        by_cases e : k = d
        · subst e
          rw [hlD] at hu
          exact hmi u (by simpa using hu)
        · exact hinv k (by omega) u hu
  · obtain rfl : d = 6 := by omega
    repeat' first
      | refine k_then ?_ | refine c_seq ?_ | refine c_region ?_ | refine s_nil ?_ | refine s_assign (by exact rfl) (by exact rfl) ?_ | refine s_lss (by exact rfl) (by exact rfl) (by exact rfl) ?_ | refine c_exit ?_ | refine c_ret ?_ | refine k_then_exit ?_ | refine k_blk_eq ?_ | (refine c_cond_p (by exact rfl) (fun h => ?_) (fun h => ?_) <;> try (exfalso; omega)) | fail
    refine retL [.tmp 2, .tmp 3] [.int .i64 0, .bool false] [0, 0, 0, 0, 0, 0, 0] rfl ⟨res_tmp rfl, res_tmp rfl, trivial⟩ (by exact rfl) ⟨gs, gw, hgs, hgw, hpre, rfl, .inl ⟨rfl, fun k hk => hinv k hk⟩⟩
end Go.Proofs.YtpajjnkmaebhcabGreat
end
section
set_option linter.unusedVariables false
namespace Fil
open Go.Sl
abbrev adj (As : List (List Nat)) (u : Nat) : List Nat := As.getD u []
abbrev alv (N : Nat) (gone : List Bool) (u : Nat) : Bool := decide (u < N) && !gone.getD u false
/-- each that is there with few neighbours is in its bucket -/
structure Bkt (N : Nat) (As few : List (List Nat)) (gone : List Bool) : Prop where
  inn : ∀ u, alv N gone u = true → (adj As u).length ≤ 5 → u ∈ few.getD (adj As u).length []
  lt : ∀ l ∈ few, ∀ u ∈ l, u < N
theorem getDL_set (l : List (List Nat)) (i j : Nat) (x : List Nat) : (l.set i x).getD j [] = if i = j ∧ i < l.length then x else l.getD j [] := by
  rw [List.getD_eq_getElem?_getD, List.getD_eq_getElem?_getD, List.getElem?_set]
  by_cases h : i = j
  · subst h
    by_cases h2 : i < l.length
    · simp [h2]
    · simp [h2, List.getElem?_eq_none (Nat.le_of_not_lt h2)]
  · simp [h]
theorem mem_getD_few {few : List (List Nat)} {d u : Nat} (h : u ∈ few.getD d []) : ∃ l ∈ few, u ∈ l := by
  rw [List.getD_eq_getElem?_getD] at h
  cases hd : few[d]? with
  | none => rw [hd] at h; simp at h
  | some l => rw [hd] at h; exact ⟨l, List.mem_of_getElem? hd, h⟩
theorem pushK_sub {few As : List (List Nat)} {v d u : Nat} (h : u ∈ few.getD d []) : u ∈ (pushK few As v).getD d [] := by
  unfold pushK
  split
  · rw [getDL_set]
    split
    · rename_i h2; rw [h2.1]; exact List.mem_append.2 (.inl h)
    · exact h
  · exact h
theorem pushK_in {few As : List (List Nat)} {v : Nat} (h : (adj As v).length ≤ 5) (hf : few.length = 6) : v ∈ (pushK few As v).getD (adj As v).length [] := by
  rw [pushK, if_pos h, getDL_set, if_pos ⟨rfl, by have h : (As.getD v []).length ≤ 5 := h; omega⟩]
  simp
theorem pushK_lt {few As : List (List Nat)} {v N : Nat} (h : ∀ l ∈ few, ∀ u ∈ l, u < N) (hv : v < N) : ∀ l ∈ pushK few As v, ∀ u ∈ l, u < N := by
  intro l hl u hu
  unfold pushK at hl
  split at hl
  · rcases List.mem_or_eq_of_mem_set hl with hl | rfl
    · exact h l hl u hu
    · rcases List.mem_append.1 hu with hu | hu
      · obtain ⟨l, hl, hu⟩ := mem_getD_few hu
        exact h l hl u hu
      · obtain rfl : u = v := by simpa using hu
        exact hv
  · exact h l hl u hu
/-- neighbours forget a vertex: who is a neighbour then -/
theorem leaveS_spec {v : Nat} : ∀ {us : List Nat} {p : List (List Nat) × List (List Nat)}, us.Nodup → (∀ u ∈ us, u < p.1.length) → p.2.length = 6 →
    (∀ w, adj (leaveS v p us).1 w = if w ∈ us then (adj p.1 w).filter fun a => a ≠ v else adj p.1 w) ∧ (∀ d u, u ∈ p.2.getD d [] → u ∈ (leaveS v p us).2.getD d []) ∧ (∀ u ∈ us, (adj (leaveS v p us).1 u).length ≤ 5 → u ∈ (leaveS v p us).2.getD (adj (leaveS v p us).1 u).length []) := by
  intro us
  induction us with
  | nil => exact fun _ _ _ => ⟨fun w => by simp [leaveS], fun d u h => h, by simp⟩
  | cons u us ih =>
    intro p hn hl h6
    rw [List.nodup_cons] at hn
    obtain ⟨i1, i2, i3⟩ := ih (p := leave1 v p u) hn.2 (fun x hx => by simp only [leave1, List.length_set]; exact hl x (.tail _ hx)) (by simp only [leave1]; rw [pushK_length]; exact h6)
    have e : leaveS v p (u :: us) = leaveS v (leave1 v p u) us := rfl
    have hu := hl u (.head _)
    have ha : ∀ w, adj (leave1 v p u).1 w = if w = u then (adj p.1 u).filter fun a => a ≠ v else adj p.1 w := fun w => by
      show (p.1.set u _).getD w [] = _
      rw [getDL_set]
      by_cases h : w = u
      · rw [if_pos ⟨h.symm, hu⟩, if_pos h]
      · rw [if_neg (fun h2 => h h2.1.symm), if_neg h]
    have hadj : ∀ w, adj (leaveS v (leave1 v p u) us).1 w = if w ∈ u :: us then (adj p.1 w).filter fun a => a ≠ v else adj p.1 w := fun w => by
      rw [i1 w, ha w]
      by_cases h : w = u
      · subst h; rw [if_neg hn.1, if_pos rfl, if_pos (.head _)]
      · rw [if_neg h]
        by_cases h2 : w ∈ us
        · rw [if_pos h2, if_pos (.tail _ h2)]
        · rw [if_neg h2, if_neg (by simp [h, h2])]
    rw [e]
    refine ⟨hadj, fun d x hx => i2 d x (pushK_sub hx), fun x hx h5 => ?_⟩
    rcases List.mem_cons.1 hx with rfl | hx
    · have e2 : adj (leaveS v (leave1 v p x) us).1 x = adj (leave1 v p x).1 x := by rw [i1 x, if_neg hn.1]
      rw [e2] at h5 ⊢
      exact i2 _ _ (pushK_in h5 h6)
    · exact i3 x hx h5
theorem leaveS_lt {v N : Nat} : ∀ {us : List Nat} {p : List (List Nat) × List (List Nat)}, (∀ l ∈ p.2, ∀ u ∈ l, u < N) → (∀ u ∈ us, u < N) → ∀ l ∈ (leaveS v p us).2, ∀ u ∈ l, u < N := by
  intro us
  induction us with
  | nil => exact fun h _ => h
  | cons u us ih => exact fun h hu => ih (pushK_lt h (hu u (.head _))) fun x hx => hu x (.tail _ hx)
theorem mem_insN {l : List Nat} {b w : Nat} : w ∈ insN l b ↔ w ∈ l ∨ w = b := by
  unfold insN
  split
  · rename_i h
    exact ⟨.inl, fun h2 => h2.elim id fun e => e ▸ h⟩
  · simp
theorem insN_nodup {l : List Nat} {b : Nat} (h : l.Nodup) : (insN l b).Nodup := by
  unfold insN
  split
  · exact h
  · rename_i hb
    exact List.nodup_append.2 ⟨h, by simp, fun x hx y hy e => by
      obtain rfl : y = b := by simpa using hy
      exact hb (e ▸ hx)⟩
/-- a vertex becomes another one: who is a neighbour then -/
theorem mergeS_spec {v b : Nat} : ∀ {us : List Nat} {p : List (List Nat) × List (List Nat)}, us.Nodup → (∀ u ∈ us, u < p.1.length) → b < p.1.length → p.2.length = 6 → b ∉ us → (∀ w, (adj p.1 w).Nodup) →
    (∀ w, (adj (mergeS v b p us).1 w).Nodup) ∧ (∀ w x, x ∈ adj (mergeS v b p us).1 w ↔ (w ∈ us ∧ (x ∈ adj p.1 w ∧ x ≠ v ∨ x = b)) ∨ (w = b ∧ (x ∈ adj p.1 b ∨ x ∈ us)) ∨ (w ∉ us ∧ w ≠ b ∧ x ∈ adj p.1 w)) ∧ (∀ d u, u ∈ p.2.getD d [] → u ∈ (mergeS v b p us).2.getD d []) ∧ (∀ u ∈ us, (adj (mergeS v b p us).1 u).length ≤ 5 → u ∈ (mergeS v b p us).2.getD (adj (mergeS v b p us).1 u).length []) := by
  intro us
  induction us with
  | nil =>
    intro p _ _ _ _ _ hn
    refine ⟨hn, fun w x => ?_, fun d u h => h, by simp⟩
    show x ∈ adj p.1 w ↔ _
    by_cases h : w = b
    · subst h; simp
    · simp [h]
  | cons u us ih =>
    intro p hn hl hb h6 hbu hnd
    rw [List.nodup_cons] at hn
    have hbu1 : b ≠ u := fun e => hbu (e ▸ .head _)
    have hbu2 : b ∉ us := fun h => hbu (.tail _ h)
    have hu := hl u (.head _)
    have ha : ∀ w, adj (merge1 v b p u).1 w = if w = b then insN (adj p.1 b) u else if w = u then insN ((adj p.1 u).filter fun a => a ≠ v) b else adj p.1 w := fun w => by
      show (((p.1.set u _).set u _).set b _).getD w [] = _
      rw [getDL_set]
      by_cases h : w = b
      · rw [if_pos ⟨h.symm, by simpa using hb⟩, if_pos h, getDL_set, if_neg (fun h2 => hbu1 h2.1.symm), getDL_set, if_neg (fun h2 => hbu1 h2.1.symm)]
      · rw [if_neg (fun h2 => h h2.1.symm), if_neg h, getDL_set]
        by_cases h2 : w = u
        · rw [if_pos ⟨h2.symm, by simpa using hu⟩, if_pos h2, getDL_set, if_pos ⟨rfl, hu⟩]
        · rw [if_neg (fun h3 => h2 h3.1.symm), if_neg h2, getDL_set, if_neg (fun h3 => h2 h3.1.symm)]
    have hnd1 : ∀ w, (adj (merge1 v b p u).1 w).Nodup := fun w => by
      rw [ha w]
      split
      · exact insN_nodup (hnd b)
      · split
        · exact insN_nodup ((hnd u).sublist List.filter_sublist)
        · exact hnd w
    have hlen : (merge1 v b p u).1.length = p.1.length := by simp [merge1]
    obtain ⟨i1, i2, i3, i4⟩ := ih (p := merge1 v b p u) hn.2 (fun x hx => by rw [hlen]; exact hl x (.tail _ hx)) (by rw [hlen]; exact hb) (by show (pushK _ _ _).length = 6; rw [pushK_length]; exact h6) hbu2 hnd1
    have e : mergeS v b p (u :: us) = mergeS v b (merge1 v b p u) us := rfl
    rw [e]
    refine ⟨i1, fun w x => ?_, fun d x hx => i3 d x (pushK_sub hx), fun x hx h5 => ?_⟩
    · rw [i2 w x, ha w, ha b, if_pos rfl]
      by_cases h1 : w = b
      · subst h1
        simp only [hbu2, hbu1, false_and, false_or, true_and, mem_insN, List.mem_cons, or_false, not_false_eq_true, ne_eq, not_true_eq_false, false_and, and_false, or_self]
        constructor
        · rintro ((h | h) | h)
          · exact .inl h
          · exact .inr (.inl h)
          · exact .inr (.inr h)
        · rintro (h | h | h)
          · exact .inl (.inl h)
          · exact .inl (.inr h)
          · exact .inr h
      · by_cases h2 : w = u
        · subst h2
          simp [hn.1, h1, mem_insN]
        · by_cases h3 : w ∈ us <;> simp [h1, h2, h3]
    · rcases List.mem_cons.1 hx with rfl | hx
      · have hsame : ∀ y, y ∈ adj (mergeS v b (merge1 v b p x) us).1 x ↔ y ∈ adj (merge1 v b p x).1 x := fun y => by
          rw [i2 x y]
          simp [hn.1, Ne.symm hbu1]
        have hle : (adj (mergeS v b (merge1 v b p x) us).1 x).length = (adj (merge1 v b p x).1 x).length := (perm_of_nodup (i1 x) (hnd1 x) hsame).length_eq
        rw [hle] at h5 ⊢
        exact i3 _ _ (pushK_in h5 h6)
      · exact i4 x hx h5
theorem mergeS_lt {v b N : Nat} : ∀ {us : List Nat} {p : List (List Nat) × List (List Nat)}, (∀ l ∈ p.2, ∀ u ∈ l, u < N) → (∀ u ∈ us, u < N) → ∀ l ∈ (mergeS v b p us).2, ∀ u ∈ l, u < N := by
  intro us
  induction us with
  | nil => exact fun h _ => h
  | cons u us ih => exact fun h hu => ih (pushK_lt h (hu u (.head _))) fun x hx => hu x (.tail _ hx)
end Fil
end
section
set_option linter.unusedVariables false
namespace Fil
open Go.Sl
def cntA (N : Nat) (gone : List Bool) : Nat := ((List.range N).filter (alv N gone)).length
structure Shr (R : Nat → List Nat) (N : Nat) (A0 : Nat → List Nat) (al0 : Nat → Bool) (As few : List (List Nat)) (gone : List Bool) (st : List Stp) : Prop where
  left : Left R N (adj As) (alv N gone)
  bkt : Bkt N As few gone
  nd : ∀ w, (adj As w).Nodup
  lt : ∀ w, ∀ u ∈ adj As w, u < N
  lA : As.length = N
  lG : gone.length = N
  lW : few.length = 6
  cnt : st.length + cntA N gone = N
  le : ∀ l ∈ few, l.length ≤ 100 * (st.length + 1)
  plan : ∀ rest, Plan N (adj As) (alv N gone) rest → Plan N A0 al0 (st ++ rest)
variable {R : Nat → List Nat} {N : Nat} {A0 : Nat → List Nat} {al0 : Nat → Bool} {As few : List (List Nat)} {gone : List Bool} {st : List Stp}
theorem gone_set {v : Nat} (hv : v < gone.length) (u : Nat) : (gone.set v true).getD u false = (gone.getD u false || decide (u = v)) := by
  rw [List.getD_eq_getElem?_getD, List.getD_eq_getElem?_getD, List.getElem?_set]
  by_cases h : u = v
  · subst h; simp [hv]
  · rw [if_neg (Ne.symm h)]; simp [h]
theorem alv_set {v : Nat} (hv : v < gone.length) (u : Nat) : alv N (gone.set v true) u = (alv N gone u && !decide (u = v)) := by
  simp only [alv, gone_set hv, Bool.not_or, Bool.and_assoc]
theorem cntA_set {v : Nat} (hG : gone.length = N) (h : alv N gone v = true) : cntA N (gone.set v true) + 1 = cntA N gone := by
  have hv : v < N := by simp [alv] at h; exact h.1
  have hp : (v :: (List.range N).filter (alv N (gone.set v true))).Perm ((List.range N).filter (alv N gone)) := perm_of_nodup (List.nodup_cons.2 ⟨fun hh => by
    have := (List.mem_filter.1 hh).2
    rw [alv_set (by omega)] at this
    simp at this, List.nodup_range.sublist List.filter_sublist⟩) (List.nodup_range.sublist List.filter_sublist) fun u => by
    rw [List.mem_cons, List.mem_filter, List.mem_filter, alv_set (by omega)]
    by_cases e : u = v
    · subst e; simp [hv, h]
    · simp [e]
  have := hp.length_eq
  simpa [cntA] using this
theorem Shr.alive (h : Shr R N A0 al0 As few gone st) {v : Nat} (hv : v < N) (hg : gone.getD v false = false) : alv N gone v = true := by rw [alv, decide_eq_true hv, hg]; rfl
/-- who is taken: none is left -/
theorem Shr.none (hF : Flat R N) (h : Shr R N A0 al0 As few gone st) (hno : ∀ d, d < 6 → ∀ u ∈ few.getD d [], ¬ validV gone As d u) : Plan N A0 al0 st := by
  have hall : ∀ u, alv N gone u = false := fun u => by
    cases hu : alv N gone u
    · rfl
    · exfalso
      obtain ⟨x, hx, hx5⟩ := h.left.five hF hu
      refine hno _ (by omega) x (h.bkt.inn x hx hx5) ⟨?_, rfl⟩
      simp [alv] at hx
      simpa using hx.2
  have := h.plan [] (Plan.done hall)
  rwa [List.append_nil] at this
/-- what comes of a vertex that goes -/
structure Gone1 (N : Nat) (As few : List (List Nat)) (gone : List Bool) (v : Nat) (As1 few1 : List (List Nat)) : Prop where
  adj : ∀ u, alv N gone u = true → ∀ w, w ∈ Fil.adj As1 u ↔ w ∈ Fil.adj As u ∧ w ≠ v
  nd : ∀ w, (Fil.adj As1 w).Nodup
  lt : ∀ w, ∀ u ∈ Fil.adj As1 w, u < N
  bkt : Bkt N As1 few1 (gone.set v true)
theorem Shr.gone1 (h : Shr R N A0 al0 As few gone st) {v : Nat} (hv : alv N gone v = true) {few' : List (List Nat)} (h6 : few'.length = 6) (hpre : ∀ d, few'.getD d [] <+: few.getD d []) (hsub : ∀ d, d < 6 → ∀ u ∈ few.getD d [], validV gone As d u → u = v ∨ u ∈ few'.getD d []) :
    Gone1 N As few gone v (leaveS v (As, few') (sortN (adj As v))).1 (leaveS v (As, few') (sortN (adj As v))).2 := by
  have hvN : v < N := h.left.lt v hv
  have hmem : ∀ u, u ∈ sortN (adj As v) ↔ u ∈ adj As v := fun u => (sortN_perm _).mem_iff
  have hsn : (sortN (adj As v)).Nodup := (sortN_perm _).nodup_iff.2 (h.nd v)
  have hf'lt : ∀ l ∈ few', ∀ u ∈ l, u < N := fun l hl u hu => by
    obtain ⟨d, hd⟩ := List.getElem?_of_mem hl
    have h1 : u ∈ few'.getD d [] := by rw [List.getD_eq_getElem?_getD, hd]; exact hu
    obtain ⟨l2, hl2, hu2⟩ := mem_getD_few ((hpre d).subset h1)
    exact h.bkt.lt l2 hl2 u hu2
  obtain ⟨s1, s2, s3⟩ := leaveS_spec (v := v) (us := sortN (adj As v)) (p := (As, few')) hsn (fun u hu => by rw [h.lA]; exact h.lt v u ((hmem u).1 hu)) h6
  dsimp only at s1 s2 s3
  have hadj : ∀ u, alv N gone u = true → ∀ w, w ∈ adj (leaveS v (As, few') (sortN (adj As v))).1 u ↔ w ∈ adj As u ∧ w ≠ v := fun u hu w => by
    rw [s1 u]
    split
    · simp
    · rename_i hnu
      refine ⟨fun hw => ⟨hw, fun e => hnu ((hmem u).2 ?_)⟩, fun hw => hw.1⟩
      rw [e] at hw
      exact (h.left.sym u v hu hw).2.2
  refine ⟨hadj, fun w => ?_, fun w u hu => ?_, fun u hu h5 => ?_, leaveS_lt hf'lt fun u hu => h.lt v u ((hmem u).1 hu)⟩
  · rw [s1 w]
    split
    · exact (h.nd w).sublist List.filter_sublist
    · exact h.nd w
  · rw [s1 w] at hu
    split at hu
    · exact h.lt w u (List.mem_filter.1 hu).1
    · exact h.lt w u hu
  · rw [alv_set (by rw [h.lG]; exact hvN)] at hu
    have hu' : alv N gone u = true ∧ u ≠ v := by simpa using hu
    by_cases hus : u ∈ sortN (adj As v)
    · exact s3 u hus h5
    · rw [s1 u, if_neg hus] at h5 ⊢
      have h1 := h.bkt.inn u hu'.1 h5
      rcases hsub _ (by omega) u h1 ⟨by have := hu'.1; simp [alv] at this; simpa using this.2, rfl⟩ with e | h2
      · exact absurd e hu'.2
      · exact s2 _ u h2
theorem pre_le {few' : List (List Nat)} {c : Nat} (hpre : ∀ d, few'.getD d [] <+: few.getD d []) (hl : ∀ l ∈ few, l.length ≤ c) : ∀ l ∈ few', l.length ≤ c := fun l hl2 => by
  obtain ⟨d, hd⟩ := List.getElem?_of_mem hl2
  have h1 : few'.getD d [] = l := by rw [List.getD_eq_getElem?_getD, hd]; rfl
  have h2 := (hpre d).length_le
  rw [h1] at h2
  rw [List.getD_eq_getElem?_getD] at h2
  cases hd2 : few[d]? with
  | none => rw [hd2] at h2; simp at h2; rw [h2]; exact Nat.zero_le _
  | some x => rw [hd2] at h2; have := hl x (List.mem_of_getElem? hd2); simp at h2; omega
theorem adj_le (h : Shr R N A0 al0 As few gone st) (v : Nat) : (adj As v).length ≤ N := nodup_length (h.nd v) (h.lt v)
theorem Shr.leave (h : Shr R N A0 al0 As few gone st) (hN : N ≤ 40) {v : Nat} (hv : alv N gone v = true) {few' : List (List Nat)} (h6 : few'.length = 6) (hpre : ∀ d, few'.getD d [] <+: few.getD d []) (hsub : ∀ d, d < 6 → ∀ u ∈ few.getD d [], validV gone As d u → u = v ∨ u ∈ few'.getD d []) (h4 : (adj As v).length ≤ 4) :
    Shr R N A0 al0 (leaveS v (As, few') (sortN (adj As v))).1 (leaveS v (As, few') (sortN (adj As v))).2 (gone.set v true) (st ++ [(v, -1, sortN (adj As v))]) := by
  have hvN : v < N := h.left.lt v hv
  have hg := h.gone1 hv h6 hpre hsub
  obtain ⟨l1, l2, l3⟩ := leaveS_len (v := v) (us := sortN (adj As v)) (p := (As, few')) (pre_le hpre h.le)
  have hal := fun u => alv_set (N := N) (gone := gone) (v := v) (by rw [h.lG]; exact hvN) u
  have hmem : ∀ u, u ∈ sortN (adj As v) ↔ u ∈ adj As v := fun u => (sortN_perm _).mem_iff
  have hlv := adj_le h v
  have hsl := (sortN_perm (adj As v)).length_eq
  have hA : ∀ u, alv N (gone.set v true) u = true → ∀ w, w ∈ adj (leaveS v (As, few') (sortN (adj As v))).1 u ↔ w ∈ adj As u ∧ w ≠ v := fun u hu => hg.adj u (by rw [hal] at hu; simp at hu; simp [alv, hu])
  refine ⟨h.left.leave hal fun u hu => ⟨hg.nd u, hA u hu⟩, hg.bkt, hg.nd, hg.lt, l1.trans h.lA, by simp [h.lG], l2.trans h6, ?_, fun l hl => ?_, fun rest hr => ?_⟩
  · have := cntA_set h.lG hv
    have := h.cnt
    simp; omega
  · have := l3 l hl
    simp; omega
  · rw [List.append_assoc]
    exact h.plan _ (Plan.leave h.left.sy hv hmem (by omega) hal hA hr)
theorem Shr.merge (h : Shr R N A0 al0 As few gone st) (hN : N ≤ 40) {v : Nat} (hv : alv N gone v = true) {few' : List (List Nat)} (h6 : few'.length = 6) (hpre : ∀ d, few'.getD d [] <+: few.getD d []) (hsub : ∀ d, d < 6 → ∀ u ∈ few.getD d [], validV gone As d u → u = v ∨ u ∈ few'.getD d []) (h5 : (adj As v).length = 5)
    {As1 few1 : List (List Nat)} (e1 : leaveS v (As, few') (sortN (adj As v)) = (As1, few1)) {a b : Nat} (ha : a ∈ adj As v) (hb : b ∈ adj As v) (hab : a ≠ b) (hn : b ∉ adj As1 a) :
    Shr R N A0 al0 (mergeS a b (As1, few1) (sortN (adj As1 a))).1 (pushK (mergeS a b (As1, few1) (sortN (adj As1 a))).2 (mergeS a b (As1, few1) (sortN (adj As1 a))).1 b) ((gone.set v true).set a true) (st ++ [(v, -1, sortN (adj As v)), (a, (b : Int), [])]) := by
  have hvN : v < N := h.left.lt v hv
  have hg := h.gone1 hv h6 hpre hsub
  obtain ⟨l1, l2, l3⟩ := leaveS_len (v := v) (us := sortN (adj As v)) (p := (As, few')) (pre_le hpre h.le)
  rw [e1] at hg l1 l2 l3
  dsimp only at hg l1 l2 l3
  have hlv := adj_le h v
  have hsl := (sortN_perm (adj As v)).length_eq
  obtain ⟨a1, a2, a3⟩ := h.left.sym v a hv ha
  obtain ⟨b1, b2, b3⟩ := h.left.sym v b hv hb
  have haN := h.left.lt a a1
  have hbN := h.left.lt b b1
  have hal := fun u => alv_set (N := N) (gone := gone) (v := v) (by rw [h.lG]; exact hvN) u
  have hal2 : ∀ u, alv N ((gone.set v true).set a true) u = (alv N gone u && !decide (u = v) && !decide (u = a)) := fun u => by
    rw [alv_set (by simp [h.lG, haN]), hal]
  have hmem : ∀ u, u ∈ sortN (adj As v) ↔ u ∈ adj As v := fun u => (sortN_perm _).mem_iff
  have hm1 : ∀ u, u ∈ sortN (adj As1 a) ↔ u ∈ adj As a ∧ u ≠ v := fun u => ((sortN_perm _).mem_iff).trans (hg.adj a a1 u)
  have hbA : b ∉ adj As a := fun hh => hn ((hg.adj a a1 b).2 ⟨hh, b2⟩)
  have haB : a ∉ adj As b := fun hh => hbA (h.left.sym b a b1 hh).2.2
  have hb1 : b ∉ sortN (adj As1 a) := fun hh => hbA ((hm1 b).1 hh).1
  have hsn : (sortN (adj As1 a)).Nodup := (sortN_perm _).nodup_iff.2 (hg.nd a)
  have hle1 : (adj As1 a).length ≤ N := nodup_length (hg.nd a) (hg.lt a)
  have hsl1 := (sortN_perm (adj As1 a)).length_eq
  obtain ⟨m1, m2, m3, m4⟩ := mergeS_spec (v := a) (b := b) (us := sortN (adj As1 a)) (p := (As1, few1)) hsn (fun u hu => by rw [l1, h.lA]; exact hg.lt a u ((sortN_perm _).mem_iff.1 hu)) (by rw [l1, h.lA]; exact hbN) (l2.trans h6) hb1 hg.nd
  obtain ⟨k1, k2, k3⟩ := mergeS_len (v := a) (b := b) (us := sortN (adj As1 a)) (p := (As1, few1)) l3
  have k4 := mergeS_lt (v := a) (b := b) (N := N) (us := sortN (adj As1 a)) (p := (As1, few1)) hg.bkt.lt fun u hu => hg.lt a u ((sortN_perm _).mem_iff.1 hu)
  dsimp only at m2 m3 m4 k1 k2 k3
  generalize mergeS a b (As1, few1) (sortN (adj As1 a)) = M at *
  have hal' : ∀ u, alv N ((gone.set v true).set a true) u = true → alv N gone u = true ∧ u ≠ v ∧ u ≠ a := fun u hu => by
    rw [hal2] at hu
    simpa [and_assoc] using hu
  have hA : ∀ u, alv N ((gone.set v true).set a true) u = true → ∀ w, w ∈ adj M.1 u ↔ (w ∈ adj As u ∧ w ≠ v ∧ w ≠ a) ∨ (u = b ∧ w ∈ adj As a ∧ w ≠ v) ∨ (w = b ∧ u ∈ adj As a) := fun u hu w => by
    obtain ⟨u1, u2, u3⟩ := hal' u hu
    rw [m2 u w, hm1 u, hg.adj u u1 w, hm1 w, hg.adj b b1 w]
    by_cases hub : u = b
    · rw [hub]
      constructor
      · rintro (⟨⟨q, _⟩, _⟩ | ⟨_, q | q⟩ | ⟨_, q, _⟩)
        · exact absurd q hbA
        · exact .inl ⟨q.1, q.2, fun e => haB (e ▸ q.1)⟩
        · exact .inr (.inl ⟨rfl, q⟩)
        · exact absurd rfl q
      · rintro (q | ⟨_, q⟩ | ⟨_, q⟩)
        · exact .inr (.inl ⟨rfl, .inl ⟨q.1, q.2.1⟩⟩)
        · exact .inr (.inl ⟨rfl, .inr q⟩)
        · exact absurd q hbA
    · by_cases hua : u ∈ adj As a
      · constructor
        · rintro (⟨_, q | q⟩ | ⟨q, _⟩ | ⟨q, _, _⟩)
          · exact .inl ⟨q.1.1, q.1.2, q.2⟩
          · exact .inr (.inr ⟨q, hua⟩)
          · exact absurd q hub
          · exact absurd ⟨hua, u2⟩ q
        · rintro (q | ⟨q, _⟩ | ⟨q, _⟩)
          · exact .inl ⟨⟨hua, u2⟩, .inl ⟨⟨q.1, q.2.1⟩, q.2.2⟩⟩
          · exact absurd q hub
          · exact .inl ⟨⟨hua, u2⟩, .inr q⟩
      · constructor
        · rintro (⟨⟨q, _⟩, _⟩ | ⟨q, _⟩ | ⟨_, _, q⟩)
          · exact absurd q hua
          · exact absurd q hub
          · exact .inl ⟨q.1, q.2, fun e => hua (h.left.sym u a u1 (e ▸ q.1)).2.2⟩
        · rintro (q | ⟨q, _⟩ | ⟨_, q⟩)
          · exact .inr (.inr ⟨fun hh => hua hh.1, hub, q.1, q.2.1⟩)
          · exact absurd q hub
          · exact absurd q hua
  have hltM : ∀ w, ∀ u ∈ adj M.1 w, u < N := fun w u hu => by
    rcases (m2 w u).1 hu with ⟨_, q | q⟩ | ⟨_, q | q⟩ | ⟨_, _, q⟩
    · exact hg.lt w u q.1
    · rw [q]; exact hbN
    · exact hg.lt b u q
    · exact hg.lt a u ((sortN_perm _).mem_iff.1 q)
    · exact hg.lt w u q
  refine ⟨h.left.merge hv ha hb hab hbA hal2 fun u hu => ⟨m1 u, hA u hu⟩, ⟨fun u hu h5u => ?_, pushK_lt k4 hbN⟩, m1, hltM, k1.trans (l1.trans h.lA), by simp [h.lG], by rw [pushK_length]; exact k2.trans (l2.trans h6), ?_, fun l hl => ?_, fun rest hr => ?_⟩
  · obtain ⟨u1, u2, u3⟩ := hal' u hu
    by_cases hub : u = b
    · subst hub
      exact pushK_in h5u (k2.trans (l2.trans h6))
    · refine pushK_sub ?_
      by_cases hus : u ∈ sortN (adj As1 a)
      · exact m4 u hus h5u
      · have hsame : ∀ y, y ∈ adj M.1 u ↔ y ∈ adj As1 u := fun y => by
          rw [m2 u y]; simp only [hus, hub, false_and, not_false_eq_true, true_and, false_or, ne_eq]
        have hle : (adj M.1 u).length = (adj As1 u).length := (perm_of_nodup (m1 u) (hg.nd u) hsame).length_eq
        rw [hle] at h5u ⊢
        refine m3 _ u (hg.bkt.inn u ?_ h5u)
        rw [hal]; simp [u1, u2]
  · have c1 := cntA_set h.lG hv
    have c2 := cntA_set (N := N) (gone := gone.set v true) (v := a) (by simp [h.lG]) (by rw [hal]; simp [a1, a2])
    have := h.cnt
    simp; omega
  · have h9 : ∀ l ∈ pushK M.2 M.1 b, l.length ≤ 100 * (st.length + 1) + (sortN (adj As v)).length + (sortN (adj As1 a)).length + 1 := pushK_le k3
    have := h9 l hl
    simp; omega
  · rw [List.append_assoc]
    refine h.plan _ (Plan.merge h.left.sy hv hmem (by omega) ((hmem a).2 ha) ((hmem b).2 hb) hab hbA hal2 hA hr)
end Fil
end
section
set_option linter.unusedVariables false
namespace Go.Proofs.YtpajjnkmaebhcabGreat
open Go Go.RowKit Go.Sl Fil
set_option maxRecDepth 100000
set_option maxHeartbeats 8000000
set_option linter.unusedVariables false
set_option linter.unusedSimpArgs false
attribute [local irreducible] Code.wp wpList bodyPost wpQuiet Exit.then Exit.inBlock Post wpAnyH wpOp
theorem fshrink_ok (R : Nat → List Nat) (A0 : Nat → List Nat) (al0 : Nat → Bool) (fb : Nat) (vn vg vst : Value) (hs fs ns : List Value) (N : Nat) (As : List (List Nat)) (gone : List Bool) (few : List (List Nat)) (st : List Stp) (w : World) (S : FS) (hsat : sats (fldL fb vn vg vst hs fs ns N As gone few st) S w) (hhs : hs.length = N) (hfs : fs.length = 6) (hns : ns.length = st.length) (hF : Flat R N) (hN : N ≤ 40) (hS : Shr R N A0 al0 As few gone st) :
    Calls Tryz.prog 34 #[.pointer (some ⟨fb, 0, none⟩)] w (Post w S fun r L' => r = .tuple #[] ∧ ∃ (vst' : Value) (fs' ns' : List Value) (As' few' : List (List Nat)) (gone' : List Bool) (st' : List Stp), fs'.length = 6 ∧ ns'.length = st'.length ∧ st'.length ≤ N ∧ Plan N A0 al0 st' ∧ L' = fldL fb vn vg vst' hs fs' ns' N As' gone' few' st') := by
  refine enter (vs := [_]) Tryz.func34 rfl Tryz.ntmps34 rfl hsat ?_
  repeat' first
    | refine c_block ?_ | fail
  refine c_loop (fun x : Value × List Value × List Value × List (List Nat) × List (List Nat) × List Bool × List Stp => x.2.1.length = 6 ∧ x.2.2.1.length = x.2.2.2.2.2.2.length ∧ Shr R N A0 al0 x.2.2.2.1 x.2.2.2.2.1 x.2.2.2.2.2.1 x.2.2.2.2.2.2) (fun x => [(0, .pointer (some ⟨fb, 0, none⟩))])
    (fun x => fldL fb vn vg x.1 hs x.2.1 x.2.2.1 N x.2.2.2.1 x.2.2.2.2.2.1 x.2.2.2.2.1 x.2.2.2.2.2.2) (fun x => cntA N x.2.2.2.2.2.1) (vst, fs, ns, As, few, gone, st) [0, 0, 0, 0, 0, 0, 0] ⟨hfs, hns, hS⟩ (by exact rfl) ⟨rfl, trivial⟩ ?_
  rintro ⟨vst, fs, ns, As, few, gone, st⟩ ⟨hfs, hns, hS⟩
  dsimp only at hfs hns hS ⊢
  have hz : FSz N hs fs ns As few gone st := ⟨hS.lA, hhs, hS.lG, hfs, hS.lW, hns, by omega⟩
  have hcnt := hS.cnt
  repeat' first
    | refine c_seq ?_ | refine c_region ?_ | refine s_move (by exact rfl) (by exact rfl) ?_ | refine c_block ?_ | fail
  refine s_lend (vs := [.pointer (some ⟨fb, 0, none⟩)]) (fldL fb vn vg vst hs fs ns N As gone few st) [] (by rw [List.append_nil]) (by exact rfl) (by exact rfl) (fun w S h => ftake_ok fb vn vg vst hs fs ns N As gone few st w S h.own hz hS.bkt.lt) ?_
  rintro _ _ ⟨fs1, few1, hf1, hw1, hpre, rfl, hcase⟩
  rw [List.append_nil]
  rcases hcase with ⟨rfl, hno⟩ | ⟨v, d0, rfl, hd0, hvin, hval, hsub⟩
  · have hpl := hS.none hF hno
    repeat' first
      | refine k_then ?_ | refine c_seq ?_ | refine c_region ?_ | refine s_nil ?_ | refine s_move (by exact rfl) (by exact rfl) ?_ | refine s_assign (by exact rfl) (by exact rfl) ?_ | refine s_not (by exact rfl) (by exact rfl) ?_ | refine s_extract (by exact rfl) (by exact rfl) (by exact rfl) ?_ | refine c_ret ?_ | refine k_then_ret ?_ | refine k_blk_ret ?_ | refine c_cond_t (by exact rfl) ?_ | fail
    refine retL [] [] [0, 0, 0, 0, 0, 0, 0] rfl trivial (by exact rfl) ⟨rfl, vst, fs1, ns, As, few1, gone, st, hf1, hns, by omega, hpl, rfl⟩
  obtain ⟨lv, hlv1, hlv2⟩ := mem_getD_few hvin
  have hvN := hS.bkt.lt lv hlv1 v hlv2
  have hva := hS.alive hvN hval.1
  have hlen : (adj As v).length = d0 := hval.2
  have hAv : As[v]? = some (adj As v) := by rw [adj, List.getD_eq_getElem?_getD, List.getElem?_eq_getElem (by rw [hS.lA]; exact hvN)]; rfl
  have hz1 : FSz N hs fs1 ns As few1 gone st := ⟨hS.lA, hhs, hS.lG, hf1, hw1, hns, by omega⟩
  repeat' first
    | refine k_then ?_ | refine c_seq ?_ | refine c_region ?_ | refine s_nil ?_ | refine s_move (by exact rfl) (by exact rfl) ?_ | refine s_assign (by exact rfl) (by exact rfl) ?_ | refine s_not (by exact rfl) (by exact rfl) ?_ | refine s_extract (by exact rfl) (by exact rfl) (by exact rfl) ?_ | refine c_skip ?_ | refine c_cond_f (by exact rfl) ?_ | fail
  refine s_lend (vs := [.pointer (some ⟨fb, 0, none⟩), .int .i64 (v : Int)]) (fldL fb vn vg vst hs fs1 ns N As gone few1 st) [] (by rw [List.append_nil]) (by exact rfl) (by exact rfl) (fun w S h => fneigh_ok fb vn vg vst hs fs1 ns N As gone few1 st v (adj As v) w S h.own hz1 hAv (by omega)) ?_
  rintro nv _ rfl
  rw [List.append_nil]
  have hsl := (sortN_perm (adj As v)).length_eq
  refine know_row (v := nv) (.head _) fun hnv _ => ?_
  have hnv5 : Shp nv (sortN (adj As v)).length := by rw [hsl]; exact hnv
  repeat' first
    | refine k_then ?_ | refine c_seq ?_ | refine c_region ?_ | refine s_nil ?_ | refine s_move (by exact rfl) (by exact rfl) ?_ | refine s_assign (by exact rfl) (by exact rfl) ?_ | fail
  refine c_pick [1, 1, 1, 1, 1, 1, 1, 0] (by exact rfl) ?_
  refine s_lend (vs := [.pointer (some ⟨fb, 0, none⟩), .int .i64 (v : Int)]) (fldL fb vn vg vst hs fs1 ns N As gone few1 st) [rowHP nv 3 1 (adj As v).length (nV (sortN (adj As v)))] (by exact rfl) (by exact rfl) (by exact rfl) (fun w S h => fleave_ok fb vn vg vst hs fs1 ns N As gone few1 st v (adj As v) w S h.own hz1 hAv (by omega) (hS.lt v) (100 * (st.length + 1)) (pre_le hpre hS.le) (by omega) (by omega)) ?_
  rintro _ _ ⟨rfl, vst2, fs2, ns2, hf2, hn2, rfl⟩
  by_cases h5 : d0 = 5
  case neg =>
    have hS2 := hS.leave hN hva hw1 hpre hsub (by omega)
    have hc2 := hS2.cnt
    repeat' first
      | refine k_then ?_ | refine c_seq ?_ | refine c_region ?_ | refine s_nil ?_ | refine s_move (by exact rfl) (by exact rfl) ?_ | refine s_eql (by exact rfl) (by exact rfl) (by exact rfl) ?_ | refine s_len (by exact rfl) (by exact rfl) (by assumption) ?_ | refine c_skip ?_ | refine k_blk ?_ | (refine c_cond_p (by exact rfl) (fun h => ?_) (fun h => ?_) <;> try (exfalso; omega)) | fail
    refine c_round (vst2, fs2, ns2, _, _, _, _) [0, 0, 0, 0, 0, 0, 0] (by exact rfl) ⟨rfl, trivial⟩ ⟨hf2, by dsimp only; rw [hn2]; simp, hS2⟩ ?_
    have := cntA_set hS.lG hva
    dsimp only
    omega
  have hg1 := hS.gone1 hva hw1 hpre hsub
  obtain ⟨l1, l2, l3⟩ := leaveS_len (v := v) (us := sortN (adj As v)) (p := (As, few1)) (pre_le hpre hS.le)
  dsimp only at l1 l2
  have hlA := hS.lA
  obtain ⟨B, hBB⟩ : ∃ B, leaveS v (As, few1) (sortN (adj As v)) = B := ⟨_, rfl⟩
  have hmer : ∀ a b : Nat, a ∈ adj As v → b ∈ adj As v → a ≠ b → b ∉ adj B.1 a → Shr R N A0 al0 (mergeS a b (B.1, B.2) (sortN (adj B.1 a))).1 (pushK (mergeS a b (B.1, B.2) (sortN (adj B.1 a))).2 (mergeS a b (B.1, B.2) (sortN (adj B.1 a))).1 b) ((gone.set v true).set a true) (st ++ [(v, -1, sortN (adj As v)), (a, (b : Int), [])]) :=
    fun a b ha hb hab hn => hS.merge hN hva hw1 hpre hsub (by omega) (As1 := B.1) (few1 := B.2) hBB ha hb hab hn
  rw [hBB] at l1 l2 l3 hg1 ⊢
  have hz2 : FSz N hs fs2 ns2 B.1 B.2 (gone.set v true) (st ++ [(v, -1, sortN (adj As v))]) := ⟨l1.trans hS.lA, hhs, by simp [hS.lG], hf2, l2.trans hw1, by rw [hn2]; simp, by omega⟩
  have hsm : ∀ u, u ∈ sortN (adj As v) ↔ u ∈ adj As v := fun u => (sortN_perm _).mem_iff
  have hsn : (sortN (adj As v)).Nodup := (sortN_perm _).nodup_iff.2 (hS.nd v)
  repeat' first
    | refine k_then ?_ | refine c_seq ?_ | refine c_region ?_ | refine s_nil ?_ | refine s_move (by exact rfl) (by exact rfl) ?_ | refine s_eql (by exact rfl) (by exact rfl) (by exact rfl) ?_ | refine s_len (by exact rfl) (by exact rfl) (by assumption) ?_ | (refine c_cond_p (by exact rfl) (fun h => ?_) (fun h => ?_) <;> try (exfalso; omega)) | fail
  refine s_lend (vs := [.pointer (some ⟨fb, 0, none⟩), nv]) (fldL fb vn vg vst2 hs fs2 ns2 N B.1 (gone.set v true) B.2 (st ++ [(v, -1, sortN (adj As v))])) [rowHP nv 3 1 (adj As v).length (nV (sortN (adj As v)))] (by exact rfl) (by exact rfl) (by exact rfl) (fun w S h => fapart_ok fb vn vg vst2 nv hs fs2 ns2 N B.1 (gone.set v true) B.2 _ (sortN (adj As v)) w S h.own hz2 hnv5 (h.ro_own (.head _)) (fun u hu => hS.lt v u ((hsm u).1 hu)) hsn) ?_
  rintro _ _ ⟨rfl, hc⟩
  rcases hc with ⟨rfl, hall⟩ | ⟨a, b, rfl, ha, hb, hab, hn⟩
  · exfalso
    have key : ∀ (i j u x : Nat), j < i → (sortN (adj As v))[i]? = some u → (sortN (adj As v))[j]? = some x → x ∈ adj As u := fun i j u x h1 h2 h3 => by
      have hu := (hsm u).1 (List.mem_of_getElem? h2)
      exact ((hg1.adj u (hS.left.sym v u hva hu).1 x).1 (hall i j u x h1 h2 h3)).1
    refine hS.left.apart hF hva hsm hsn (by omega) fun u hu x hx hux => ?_
    obtain ⟨i, hi⟩ := List.getElem?_of_mem hu
    obtain ⟨j, hj⟩ := List.getElem?_of_mem hx
    rcases Nat.lt_trichotomy i j with h | h | h
    · have h1 := key j i x u h hj hi
      exact (hS.left.sym x u (hS.left.sym v x hva ((hsm x).1 hx)).1 h1).2.2
    · subst h; rw [hi] at hj; exact absurd (Option.some.inj hj) hux
    · exact key i j u x h hi hj
  have ha' := (hsm a).1 ha
  have hb' := (hsm b).1 hb
  have haN := hS.lt v a ha'
  have hbN := hS.lt v b hb'
  have hS2 := hmer a b ha' hb' hab hn
  have hAa : B.1[a]? = some (adj B.1 a) := by rw [adj, List.getD_eq_getElem?_getD, List.getElem?_eq_getElem (by omega)]; rfl
  have hle1 : (adj B.1 a).length ≤ N := nodup_length (hg1.nd a) (hg1.lt a)
  repeat' first
    | refine k_then ?_ | refine c_seq ?_ | refine c_region ?_ | refine s_nil ?_ | refine s_move (by exact rfl) (by exact rfl) ?_ | refine s_assign (by exact rfl) (by exact rfl) ?_ | refine s_geq (by exact rfl) (by exact rfl) (by exact rfl) ?_ | refine s_extract (by exact rfl) (by exact rfl) (by exact rfl) ?_ | (refine c_cond_p (by exact rfl) (fun h => ?_) (fun h => ?_) <;> try (exfalso; omega)) | fail
  refine s_lend (vs := [.pointer (some ⟨fb, 0, none⟩), .int .i64 (a : Int), .int .i64 (b : Int)]) (fldL fb vn vg vst2 hs fs2 ns2 N B.1 (gone.set v true) B.2 (st ++ [(v, -1, sortN (adj As v))])) [rowHP nv 3 1 (adj As v).length (nV (sortN (adj As v)))] (by exact rfl) (by exact rfl) (by exact rfl) (fun w S h => fmerge_ok fb vn vg vst2 hs fs2 ns2 N B.1 (gone.set v true) B.2 _ a b (adj B.1 a) w S h.own hz2 hAa (by omega) (hg1.lt a) hbN (100 * (st.length + 1) + (sortN (adj As v)).length) l3 (by omega) (by simp; omega)) ?_
  rintro _ _ ⟨rfl, vst3, fs3, ns3, hf3, hn3, rfl⟩
  repeat' first
    | refine k_then ?_ | refine s_nil ?_ | refine k_blk ?_ | fail
  have hst : st ++ [(v, -1, sortN (adj As v))] ++ [(a, (b : Int), [])] = st ++ [(v, -1, sortN (adj As v)), (a, (b : Int), [])] := by simp
  refine c_round (vst3, fs3, ns3, (mergeS a b (B.1, B.2) (sortN (adj B.1 a))).1, pushK (mergeS a b (B.1, B.2) (sortN (adj B.1 a))).2 (mergeS a b (B.1, B.2) (sortN (adj B.1 a))).1 b, (gone.set v true).set a true, st ++ [(v, -1, sortN (adj As v)), (a, (b : Int), [])]) [0, 0, 0, 0, 0, 0, 0] (by dsimp only; rw [← hst]; exact rfl) ⟨rfl, trivial⟩ ⟨hf3, by dsimp only; rw [hn3]; simp, hS2⟩ ?_
  have c1 := cntA_set hS.lG hva
  obtain ⟨a1, a2, a3⟩ := hS.left.sym v a hva ha'
  have c2 := cntA_set (N := N) (gone := gone.set v true) (v := a) (by simp [hS.lG]) (by rw [alv_set (by rw [hS.lG]; exact hvN)]; simp [a1, a2])
  dsimp only
  omega
end Go.Proofs.YtpajjnkmaebhcabGreat
end
section
set_option linter.unusedVariables false
set_option linter.unusedSimpArgs false
namespace Go.Sl
open Go Go.RowKit Fil
def fldO (fb : Nat) (vn vg vst : Value) (hs fs ns : List Value) (N : Nat) (Ao : List (Option (List Nat))) (gone : List Bool) (few : List (List Nat)) (st : List Stp) : List HP :=
  [boxHP fb 61 (vn :: vg :: (fs ++ [vst])), rowHP vn 62 1 N hs, starHP (kids mapK hs Ao), rowHP vg 4 1 N (bV gone), starHP (kids rowN fs few), rowHP vst 68 3 st.length (stpV st ns), starHP (kids rowN ns (st.map fun s => s.2.2))]
theorem fldO_some (fb : Nat) (vn vg vst : Value) (hs fs ns : List Value) (N : Nat) (As : List (List Nat)) (gone : List Bool) (few : List (List Nat)) (st : List Stp) : fldO fb vn vg vst hs fs ns N (As.map some) gone few st = fldL fb vn vg vst hs fs ns N As gone few st := rfl
def pushL (few : List (List Nat)) (d v : Nat) : List (List Nat) := if d ≤ 5 then few.set d (few.getD d [] ++ [v]) else few
end Go.Sl
namespace Go.Proofs.YtpajjnkmaebhcabGreat
open Go Go.RowKit Go.Sl Fil
set_option maxRecDepth 100000
set_option maxHeartbeats 8000000
set_option linter.unusedVariables false
set_option linter.unusedSimpArgs false
attribute [local irreducible] Code.wp wpList bodyPost wpQuiet Exit.then Exit.inBlock Post wpAnyH wpOp
theorem fsortO_ok (fb : Nat) (vn vg vst : Value) (hs fs ns : List Value) (N : Nat) (Ao : List (Option (List Nat))) (l0 : List Nat) (gone : List Bool) (few : List (List Nat)) (st : List Stp) (v : Nat) (w : World) (S : FS) (hsat : sats (fldO fb vn vg vst hs fs ns N Ao gone few st) S w) (hA : Ao[v]? = some (some l0)) (z1 : Ao.length = N) (z2 : hs.length = N) (z4 : fs.length = 6) (z5 : few.length = 6) (hc : ∀ l ∈ few, l.length ≤ 1000000) :
    Calls Tryz.prog 33 #[.pointer (some ⟨fb, 0, none⟩), .int .i64 (v : Int)] w (Post w S fun r L' => r = .tuple #[] ∧ ∃ fs' : List Value, fs'.length = 6 ∧ L' = fldO fb vn vg vst hs fs' ns N Ao gone (pushL few l0.length v) st) := by
  have hv : v < N := by have := (List.getElem?_eq_some_iff.1 hA).1; omega
  refine enter (vs := [_, _]) Tryz.func33 rfl Tryz.ntmps33 rfl hsat ?_
  rw [fldO]
  refine know_row (v := vn) (.tail _ (.head _)) fun hvn _ => ?_
  obtain ⟨hd, hhd⟩ : ∃ hd, hs[v]? = some hd := ⟨_, List.getElem?_eq_getElem (by omega)⟩
  have hhd1 : hs[v * 1]? = some hd := by simpa using hhd
  have hkv : mapHP? ekI Value.bool okI hd (some (setN (l0))) ∈ kids mapK hs Ao := by
    refine List.mem_of_getElem? (i := v) ?_
    rw [kids_get (l := some l0) hhd hA]; rfl
  have hsl := setN_length (l0)
  repeat' first
    | refine k_then ?_ | refine c_seq ?_ | refine c_region ?_ | refine s_nil ?_ | refine s_move (by exact rfl) (by exact rfl) ?_ | refine s_assign (by exact rfl) (by exact rfl) ?_ | refine s_fa (by exact rfl) (by exact rfl) ?_ | refine s_ld_box (by exact rfl) (by exact rfl) (by exact .head _) (by exact rfl) ?_ | refine s_leq (by exact rfl) (by exact rfl) (by exact rfl) ?_ | refine s_lenm_kid (by exact rfl) (by exact rfl) (by assumption) (by exact .tail _ (.tail _ (.head _))) ?_ | refine s_idx (by exact rfl) (by exact rfl) (by exact rfl) (by assumption) (by first | assumption | omega) ?_ | refine s_ld_row (by exact rfl) (by exact rfl) (by exact .tail _ (.head _)) (by assumption) ?_ | refine c_skip ?_ | (refine c_cond_p (by exact rfl) (fun h => ?_) (fun h => ?_) <;> try (exfalso; omega)) | refine s_nilc (by exact rfl) (by exact rfl) ?_ | fail
  · rw [hsl] at h ⊢
    generalize hd5 : (l0).length = d at *
    have hd6 : d < 6 := by omega
    obtain ⟨fd, hfd⟩ : ∃ fd, fs[d]? = some fd := ⟨_, List.getElem?_eq_getElem (by omega)⟩
    have hfl : few[d]? = some (few.getD d []) := by rw [List.getD_eq_getElem?_getD, List.getElem?_eq_getElem (by omega)]; rfl
    have hll := hc _ (List.mem_of_getElem? hfl)
    have hpush : pushL few d v = few.set d (few.getD d [] ++ [v]) := by rw [pushL, if_pos (by omega)]
    generalize few.getD d [] = l at *
    have hcell : (vn :: vg :: (fs ++ [vst]))[0 + 2 + d]? = some fd := by
      rw [show 0 + 2 + d = d + 1 + 1 by omega, List.getElem?_cons_succ, List.getElem?_cons_succ, List.getElem?_append_left (by omega), hfd]
    refine c_take 4 d (by exact rfl) (kids_get hfd hfl) ?_
    refine p_begin [(0, true), (1, true), (2, true), (3, true), (4, true), (5, true), (6, true), (8, true), (11, true), (12, true), .rd 7 9, (10, false), (13, true), (14, false)] [rowHP vn 62 1 N hs, starHP (kids mapK hs Ao), rowHP vg 4 1 N (bV gone), starHP ((kids rowN fs few).set d empHP), rowHP vst 68 3 st.length (stpV st ns), starHP (kids rowN ns (st.map fun s => s.2.2))] (by kernel_rfl) ?_
    repeat' first
      | (refine p_at (by exact rfl) ?_
         first
          | refine t_move (by exact rfl) (by exact rfl) (by exact fun _ h => h.tl.tl) ?_ | fail)
      | fail
    refine p_at (by exact rfl) ?_
    refine t_nilc (by exact rfl) (by exact rfl) (by exact fun _ h => h.tl.tl) ?_
    repeat' first
      | (refine p_at (by exact rfl) ?_
         first
          | refine t_fa (by exact rfl) (by exact rfl) (by exact fun _ h => h.tl.tl) ?_ | fail)
      | fail
    refine p_at (by exact rfl) ?_
    refine t_ibox d (by exact rfl) (by exact rfl) (by exact rfl) hd6 (by decide) (by exact fun _ h => h.tl.tl) ?_
    repeat' first
      | (refine p_at (by exact rfl) ?_
         first
          | refine t_move (by exact rfl) (by exact rfl) (by exact fun _ h => h.tl.tl) ?_ | fail)
      | fail
    refine p_at (by exact rfl) ?_
    refine t_nilc (by exact rfl) (by exact rfl) (by exact fun _ h => h.tl.tl) ?_
    repeat' first
      | (refine p_at (by exact rfl) ?_
         first
          | refine t_fa (by exact rfl) (by exact rfl) (by exact fun _ h => h.tl.tl) ?_ | fail)
      | fail
    have hdf : d < fs.length := by omega
    refine p_rd ?_ ?_
    · refine p_at (by exact rfl) ?_
      refine r_ld_box (by exact rfl) (by exact rfl) (.tail _ (.head _)) hcell (by exact fun _ h => h.tl.tl) ?_
      refine p_mk (sz := 1) [.int .i64 (v : Int)] (by exact rfl) (by exact rfl) (by exact rfl) rfl (by simp [Value.cells]) (by simp) (by simp) (fun _ _ h => h.tl.tl.tl) fun v2 hv2 => ?_
      refine p_append_row (bytes := 8) (c := 1) (j := 1) (by exact rfl) (by exact rfl) (by exact rfl) (by exact rfl) (by exact rfl) (.head _) (by simp [Value.cells]) (by simp [Value.cells, Value.oneCell']) (by omega) (fun _ _ h => h.tl.tl.tl) (fun v3 hv3 => ?_)
      skip
      refine p_at (by exact rfl) ?_
      refine t_ibox d (by exact rfl) (by exact rfl) (by exact rfl) hd6 (by decide) (by exact fun _ h => h.tl.tl.tl) ?_
      refine p_st_box (j := 2) (by exact rfl) (by exact rfl) (by exact rfl) (by exact rfl) hv3.one (by simp; omega) (fun _ h => h.tl.tl.tl) ?_
      repeat' first
        | refine p_nil ?_ | fail
      rw [cells_set hdf]
      refine c_pick [1, 1, 1, 1, 1, 1, 1, 1] (by exact rfl) ?_
      refine c_give 4 d (by exact rfl) (by simp [kids]; omega) ?_
      refine ret0 [0, 0, 0, 0, 0, 0, 0] rfl (by exact rfl) ⟨rfl, fs.set d v3, by simpa using z4, ?_⟩
      rw [hpush, fldO, ← kids_set (x := empHP), ← rowN_snoc]
      rfl
    · refine p_mk (sz := 1) [.int .i64 (v : Int)] (by exact rfl) (by exact rfl) (by exact rfl) rfl (by simp [Value.cells]) (by simp) (by simp) (fun _ _ h => h.tl.tl.tl) fun v2 hv2 => ?_
      refine p_at (by exact rfl) ?_
      refine r_ld_box (by exact rfl) (by exact rfl) (.tail _ (.tail _ (.head _))) hcell (by exact fun _ h => h.tl.tl.tl) ?_
      refine p_append_row (bytes := 8) (c := 1) (j := 1) (by exact rfl) (by exact rfl) (by exact rfl) (by exact rfl) (by exact rfl) (.head _) (by simp [Value.cells]) (by simp [Value.cells, Value.oneCell']) (by omega) (fun _ _ h => h.tl.tl.tl) (fun v3 hv3 => ?_)
      skip
      refine p_at (by exact rfl) ?_
      refine t_ibox d (by exact rfl) (by exact rfl) (by exact rfl) hd6 (by decide) (by exact fun _ h => h.tl.tl.tl) ?_
      refine p_st_box (j := 2) (by exact rfl) (by exact rfl) (by exact rfl) (by exact rfl) hv3.one (by simp; omega) (fun _ h => h.tl.tl.tl) ?_
      repeat' first
        | refine p_nil ?_ | fail
      rw [cells_set hdf]
      refine c_pick [1, 1, 1, 1, 1, 1, 1, 1] (by exact rfl) ?_
      refine c_give 4 d (by exact rfl) (by simp [kids]; omega) ?_
      refine ret0 [0, 0, 0, 0, 0, 0, 0] rfl (by exact rfl) ⟨rfl, fs.set d v3, by simpa using z4, ?_⟩
      rw [hpush, fldO, ← kids_set (x := empHP), ← rowN_snoc]
      rfl
  · rw [hsl] at h
    refine ret0 [0, 0, 0, 0, 0, 0, 0] rfl (by exact rfl) ⟨rfl, fs, z4, ?_⟩
    rw [pushL, if_neg (by omega)]
    rfl
end Go.Proofs.YtpajjnkmaebhcabGreat
end
section
namespace Fil
/-- the lists of those of labels below i -/
def compsI (N i : Nat) (lab : Nat → Nat) : List (List Nat) := ((List.range i).filter fun v => lab v == v).map fun r => (List.range N).filter fun u => lab u == r
abbrev compsS (N : Nat) (lab : Nat → Nat) : List (List Nat) := compsI N N lab
theorem Bfs.comps {N : Nat} {A : Nat → List Nat} {met : List Bool} {out : List Nat} {lab : Nat → Nat} (h : Bfs N A N met out lab []) : compsL N N met lab = compsS N lab := by
  apply List.map_congr_left
  intro r _
  apply List.filter_congr
  intro u hu
  rw [h.below u (by simpa using hu), Bool.true_and]
theorem compsI_next {N i : Nat} {lab : Nat → Nat} (h : lab i ≠ i) : compsI N (i + 1) lab = compsI N i lab := by
  have : (lab i == i) = false := by simpa using h
  rw [compsI, List.range_succ, List.filter_append]
  simp [this, compsI]
theorem compsI_add {N i : Nat} {lab : Nat → Nat} (h : lab i = i) : compsI N (i + 1) lab = compsI N i lab ++ [(List.range N).filter fun u => lab u == i] := by
  rw [compsI, List.range_succ, List.filter_append]
  simp [h, compsI]
theorem compsI_length (N i : Nat) (lab : Nat → Nat) : (compsI N i lab).length ≤ i := by
  rw [compsI, List.length_map]
  have := List.length_filter_le (fun v => lab v == v) (List.range i)
  rwa [List.length_range] at this
theorem compsS_congr {N : Nat} {lab lab' : Nat → Nat} (h : ∀ v, v < N → lab v = lab' v) : compsS N lab = compsS N lab' := by
  have e1 : (List.range N).filter (fun v => lab v == v) = (List.range N).filter fun v => lab' v == v := by
    apply List.filter_congr
    intro v hv
    rw [h v (by simpa using hv)]
  rw [compsS, compsS, compsI, compsI, e1]
  apply List.map_congr_left
  intro r _
  apply List.filter_congr
  intro u hu
  rw [h u (by simpa using hu)]
/-- one row, as far as u -/
theorem row_low {lab : Nat → Nat} {v : Nat} (hl : ∀ u, u < v → lab u ≤ u) : (List.range v).filter (fun u => lab u == v) = [] := by
  rw [List.filter_eq_nil_iff]
  intro u hu
  have hu : u < v := by simpa using hu
  have := hl u hu
  simp; omega
theorem row_add {lab : Nat → Nat} {u v : Nat} (h : lab u = v) : (List.range (u + 1)).filter (fun u => lab u == v) = (List.range u).filter (fun u => lab u == v) ++ [u] := by
  rw [List.range_succ, List.filter_append]
  simp [h]
theorem row_next {lab : Nat → Nat} {u v : Nat} (h : lab u ≠ v) : (List.range (u + 1)).filter (fun u => lab u == v) = (List.range u).filter (fun u => lab u == v) := by
  have : (lab u == v) = false := by simpa using h
  rw [List.range_succ, List.filter_append]
  simp [this]
theorem row_length (N v : Nat) (lab : Nat → Nat) : ((List.range N).filter fun u => lab u == v).length ≤ N := by
  have := List.length_filter_le (fun u => lab u == v) (List.range N)
  rwa [List.length_range] at this
/-- each list of it -/
theorem comp_mem {N : Nat} {lab : Nat → Nat} {c : List Nat} (h : c ∈ compsS N lab) : ∃ r, r < N ∧ lab r = r ∧ c = (List.range N).filter fun u => lab u == r := by
  obtain ⟨r, hr, rfl⟩ := List.mem_map.1 h
  obtain ⟨h1, h2⟩ := List.mem_filter.1 hr
  exact ⟨r, by simpa using h1, by simpa using h2, rfl⟩
theorem Lev.congr {N : Nat} {A B : Nat → List Nat} {o lab : Nat → Nat} (h : Lev N A o lab) (hAB : ∀ v, v < N → ∀ u, u ∈ A v ↔ u ∈ B v) : Lev N B o lab where
  edge w hw u hu := h.edge w hw u ((hAB w hw u).2 hu)
  up v k hv hk := by
    obtain ⟨u, hu, h2⟩ := h.up v k hv hk
    exact ⟨u, (hAB v hv u).1 hu, h2⟩
  root := h.root
  le := h.le
  idem := h.idem
  conn v hv c hc := h.conn v hv c fun w hw u hu => hc w hw u ((hAB w hw u).1 hu)
end Fil
end
section
set_option linter.unusedVariables false
set_option linter.unusedSectionVars false
namespace Fil
abbrev rf (R : List (List Nat)) (v : Nat) : List Nat := R.getD v []
structure RotL (N : Nat) (l : List (Nat × Nat)) (R : List (List Nat)) : Prop where
  len : R.length = N
  perm : ∀ v, v < N → (rf R v).Perm (nb l v)
variable {n : Int} {es : List E} {R : List (List Nat)} {o lab : Nat → Nat}
theorem tn_nodup (hR : RightG n es) : (tn es).Nodup := by
  rw [tn, List.Nodup, List.pairwise_map]
  refine hR.sorted.imp_of_mem fun {a b} ha hb h e => ?_
  obtain ⟨a1, a2, -, -, -⟩ := hR.ok a ha
  obtain ⟨b1, b2, -, -, -⟩ := hR.ok b hb
  simp only [Prod.mk.injEq] at e
  simp only [ltE] at h
  omega
theorem nb_nd {N : Nat} {l : List (Nat × Nat)} (hG : Good N l) (hl : l.Nodup) (v : Nat) : (nb l v).Nodup := by
  rw [nb, List.Nodup, List.pairwise_filterMap]
  refine hl.imp_of_mem fun {a b} ha hb hne x hx y hy e => hne ?_
  have h1 := hG.lt a ha
  have h2 := hG.lt b hb
  subst e
  have ha' : a.1 = v ∧ a.2 = x ∨ a.1 ≠ v ∧ a.2 = v ∧ a.1 = x := by
    split at hx
    · exact .inl ⟨‹_›, by simpa using hx⟩
    · split at hx
      · exact .inr ⟨‹_›, ‹_›, by simpa using hx⟩
      · simp at hx
  have hb' : b.1 = v ∧ b.2 = x ∨ b.1 ≠ v ∧ b.2 = v ∧ b.1 = x := by
    split at hy
    · exact .inl ⟨‹_›, by simpa using hy⟩
    · split at hy
      · exact .inr ⟨‹_›, ‹_›, by simpa using hy⟩
      · simp at hy
  exact Prod.ext (by omega) (by omega)
theorem good_ne {N : Nat} {l : List (Nat × Nat)} (hG : Good N l) : ∀ e ∈ l, e.1 ≠ e.2 := fun e he => by have := hG.lt e he; omega
theorem RotL.mem (hR : RightG n es) (h : RotL n.toNat (tn es) R) {u v : Nat} : u ∈ rf R v ↔ u ∈ nb (tn es) v := by
  by_cases hv : v < n.toNat
  · exact (h.perm v hv).mem_iff
  · have h1 : rf R v = [] := by rw [rf, List.getD_eq_getElem?_getD, List.getElem?_eq_none (by have := h.len; omega)]; rfl
    rw [h1]
    refine ⟨fun h => by simp at h, fun h => ?_⟩
    exfalso
    have hG := hR.good
    rcases (mem_nb (good_ne hG)).1 h with h | h
    · have := hG.lt _ h; simp at this; omega
    · have := hG.lt _ h; simp at this; omega
theorem RotL.sys (hR : RightG n es) (h : RotL n.toNat (tn es) R) : Sys (tn es) (rf R) where
  nd v := by
    by_cases hv : v < n.toNat
    · exact (h.perm v hv).nodup_iff.2 (nb_nd hR.good (tn_nodup hR) v)
    · have h1 : rf R v = [] := by rw [rf, List.getD_eq_getElem?_getD, List.getElem?_eq_none (by have := h.len; omega)]; rfl
      rw [h1]; simp
  ed u v := by rw [h.mem hR, mem_nb (good_ne hR.good)]
  lt e he := (hR.good.lt e he).1
  ndl := tn_nodup hR
theorem RotL.lt (hR : RightG n es) (h : RotL n.toNat (tn es) R) {u v : Nat} (hu : u ∈ rf R v) : u < n.toNat ∧ v < n.toNat := by
  have hG := hR.good
  rcases (mem_nb (good_ne hG)).1 ((h.mem hR).1 hu) with h | h
  · have := hG.lt _ h; simp at this; omega
  · have := hG.lt _ h; simp at this; omega
theorem near_rot (hR : RightG n es) : RotL n.toNat (tn es) ((List.range n.toNat).map (nearS (tn es))) where
  len := by simp
  perm v hv := by
    rw [rf, List.getD_eq_getElem?_getD, List.getElem?_map, List.getElem?_range hv]
    exact List.mergeSort_perm _ _
/-- all darts, as they come sorted -/
def dartsAll (N : Nat) (l : List (Nat × Nat)) : List (Nat × Nat) := dartsOf (nearS l) (List.range N)
theorem darts_all (hR : RightG n es) (h : RotL n.toNat (tn es) R) : (dartsOf (rf R) (List.range n.toNat)).Perm (dartsAll n.toNat (tn es)) := by
  have h1 : dartsAll n.toNat (tn es) = dartsOf (rf ((List.range n.toNat).map (nearS (tn es)))) (List.range n.toNat) := by
    rw [dartsAll, dartsOf, dartsOf, List.flatMap_def, List.flatMap_def]
    congr 1
    apply List.map_congr_left
    intro v hv
    have hv : v < n.toNat := by simpa using hv
    simp [vc, rf, hv]
  rw [h1]
  refine perm_of_nodup (darts_nodup (h.sys hR) List.nodup_range) (darts_nodup ((near_rot hR).sys hR) List.nodup_range) fun d => ?_
  rw [mem_darts, mem_darts, h.mem hR, (near_rot hR).mem hR]
theorem comp_shut (hR : RightG n es) (h : RotL n.toNat (tn es) R) (hL : Lev n.toNat (nb (tn es)) o lab) {c : List Nat} (hc : c ∈ compsS n.toNat lab) : ∀ v ∈ c, ∀ u ∈ rf R v, u ∈ c := by
  obtain ⟨r, hr, hrr, rfl⟩ := comp_mem hc
  intro v hv u hu
  obtain ⟨h1, h2⟩ := List.mem_filter.1 hv
  have h3 := h.lt hR hu
  have h4 := (hL.edge v h3.2 u ((h.mem hR).1 hu)).1
  refine List.mem_filter.2 ⟨by simpa using h3.1, ?_⟩
  rw [h4]; exact h2
theorem comp_nodup {N : Nat} {c : List Nat} (hc : c ∈ compsS N lab) : c.Nodup := by
  obtain ⟨r, hr, hrr, rfl⟩ := comp_mem hc
  exact List.nodup_range.sublist List.filter_sublist
theorem comp_ne {N : Nat} {c : List Nat} (hc : c ∈ compsS N lab) : c ≠ [] := by
  obtain ⟨r, hr, hrr, rfl⟩ := comp_mem hc
  exact List.ne_nil_of_mem (List.mem_filter.2 ⟨List.mem_range.2 hr, by simp [hrr]⟩)
theorem comp_grow (hR : RightG n es) (h : RotL n.toNat (tn es) R) (hL : Lev n.toNat (nb (tn es)) o lab) {c : List Nat} (hc : c ∈ compsS n.toNat lab) : ∃ c', c'.Perm c ∧ Grow (rf R) c' := by
  have hnd := comp_nodup hc
  have hs := comp_shut hR h hL hc
  obtain ⟨r, hr, hrr, rfl⟩ := comp_mem hc
  generalize hcc : (List.range n.toNat).filter (fun u => lab u == r) = c at *
  have hm : ∀ u, u ∈ c ↔ u < n.toNat ∧ lab u = r := fun u => by rw [← hcc]; simp
  have hp := List.mergeSort_perm c fun a b => decide (o a ≤ o b)
  refine ⟨c.mergeSort fun a b => decide (o a ≤ o b), hp, fun A w B e hA => ?_⟩
  have hsort : (c.mergeSort fun a b => decide (o a ≤ o b)).Pairwise fun a b => decide (o a ≤ o b) = true :=
    List.pairwise_mergeSort (fun a b c h1 h2 => by simp at *; omega) (fun a b => by simp; omega) c
  have hnd' := hp.nodup_iff.2 hnd
  rw [e] at hsort hnd' hp
  have hwc : w ∈ c := hp.mem_iff.1 (by simp)
  obtain ⟨hwN, hwr⟩ := (hm w).1 hwc
  obtain ⟨p1, p2, p3⟩ := List.pairwise_append.1 hsort
  obtain ⟨p4, p5⟩ := List.pairwise_cons.1 p2
  cases ho : o w with
  | zero =>
    exfalso
    obtain ⟨a, ha⟩ := List.exists_mem_of_ne_nil _ hA
    have hac : a ∈ c := hp.mem_iff.1 (by simp [ha])
    obtain ⟨haN, har⟩ := (hm a).1 hac
    have h1 : o a ≤ o w := by simpa using p3 a ha w (.head _)
    have h2 := (hL.root a haN).1 (by omega)
    have h3 := (hL.root w hwN).1 ho
    have h4 : a = w := by omega
    exact (List.nodup_append.1 hnd').2.2 a ha w (.head _) h4
  | succ k =>
    obtain ⟨u, hu, hk⟩ := hL.up w k hwN ho
    have hur : u ∈ rf R w := (h.mem hR).2 hu
    refine ⟨u, ?_, (h.sys hR).sym hur⟩
    have := hp.mem_iff.2 (hs w hwc u hur)
    rcases List.mem_append.1 this with h1 | h1
    · exact h1
    · exfalso
      rcases List.mem_cons.1 h1 with rfl | h1
      · omega
      · have : o w ≤ o u := by simpa using p4 u h1
        omega
theorem grow_ne {l : List (Nat × Nat)} {R : Nat → List Nat} {c : List Nat} (hS : Sys l R) (hg : Grow R c) (h2 : 2 ≤ c.length) : ∀ v ∈ c, R v ≠ [] := by
  intro v hv
  obtain ⟨A, B, rfl⟩ := List.append_of_mem hv
  by_cases hA : A = []
  · subst hA
    cases B with
    | nil => simp at h2
    | cons w B =>
      obtain ⟨u, hu, hw⟩ := hg [v] w B rfl (by simp)
      obtain rfl : u = v := by simpa using hu
      exact List.ne_nil_of_mem hw
  · obtain ⟨u, hu, hw⟩ := hg A v B rfl hA
    exact List.ne_nil_of_mem (hS.sym hw)
theorem Dec.nil {α : Type} {p : α → α} {C : List (List α)} (h : Dec p [] C) : C = [] := by
  cases C with
  | nil => rfl
  | cons l C =>
    have := h.perm.eq_nil
    simp at this
    exact absurd this.1 (h.cy l (.head _)).1
/-- a component's number -/
def eulerK (l : List (Nat × Nat)) (F : List (List (Nat × Nat))) (c : List Nat) : Int := (if c.length = 1 then 2 else (c.length : Int)) - ((l.filter fun e => decide (e.1 ∈ c)).length : Int) + ((F.filter fun f => decide ((f.headD (0, 0)).1 ∈ c)).length : Int)
def eulerL (N : Nat) (l : List (Nat × Nat)) (lab : Nat → Nat) (F : List (List (Nat × Nat))) : List Int := (compsS N lab).map (eulerK l F)
theorem single (hR : RightG n es) (h : RotL n.toNat (tn es) R) (hL : Lev n.toNat (nb (tn es)) o lab) {c : List Nat} (hc : c ∈ compsS n.toNat lab) (h1 : c.length = 1) : dartsOf (rf R) c = [] ∧ (tn es).filter (fun e => decide (e.1 ∈ c)) = [] := by
  have hs := comp_shut hR h hL hc
  obtain ⟨v, rfl⟩ := List.length_eq_one_iff.1 h1
  have hv : rf R v = [] := by
    refine List.eq_nil_iff_forall_not_mem.2 fun u hu => ?_
    have := hs v (by simp) u hu
    exact (h.sys hR).ne hu (by simpa using this)
  refine ⟨by rw [dartsOf, List.flatMap_cons, List.flatMap_nil, vc, hv]; rfl, List.filter_eq_nil_iff.2 fun e he hd => ?_⟩
  obtain rfl : e.1 = v := by simpa using hd
  have : e.2 ∈ rf R e.1 := ((h.sys hR).ed _ _).2 (.inl he)
  rw [hv] at this; simp at this
theorem comp_count (hR : RightG n es) (h : RotL n.toNat (tn es) R) (hL : Lev n.toNat (nb (tn es)) o lab) {F : List (List (Nat × Nat))} (hF : Dec (nxt (rf R)) (dartsAll n.toNat (tn es)) F) {c : List Nat} (hc : c ∈ compsS n.toNat lab) :
    Dec (nxt (rf R)) (dartsOf (rf R) c) (F.filter fun f => decide ((f.headD (0, 0)).1 ∈ c)) :=
  faces_in (h.sys hR) (comp_nodup hc) (comp_shut hR h hL hc) (fun v hv => by
    obtain ⟨r, hr, hrr, rfl⟩ := comp_mem hc
    exact (List.mem_filter.1 hv).1) (hF.to (darts_all hR h).symm)
theorem euler_mirror (hR : RightG n es) {R' : List (List Nat)} (h : RotL n.toNat (tn es) R) (h' : RotL n.toNat (tn es) R') (hm : ∀ v, rf R' v = (rf R v).reverse) (hL : Lev n.toNat (nb (tn es)) o lab) {F F' : List (List (Nat × Nat))} (hF : Dec (nxt (rf R)) (dartsAll n.toNat (tn es)) F) (hF' : Dec (nxt (rf R')) (dartsAll n.toNat (tn es)) F') {c : List Nat} (hc : c ∈ compsS n.toNat lab) :
    eulerK (tn es) F c = eulerK (tn es) F' c := by
  have h1 := comp_count hR h hL hF hc
  have h2 := comp_count hR h' hL hF' hc
  obtain ⟨C', e1, h3⟩ := mirror_dec (h.sys hR) (comp_nodup hc) (comp_shut hR h hL hc) h1
  have e : rf R' = fun v => (rf R v).reverse := funext hm
  rw [e] at h2
  have := h3.count h2
  rw [eulerK, eulerK]
  omega
end Fil
end
section
set_option linter.unusedVariables false
set_option linter.unusedSectionVars false
namespace Fil
def leD (a b : Nat × Nat) : Bool := decide (a.1 < b.1 ∨ a.1 = b.1 ∧ a.2 ≤ b.2)
theorem leD_anti {a b : Nat × Nat} (h1 : leD a b = true) (h2 : leD b a = true) : a = b := by
  have h1 := of_decide_eq_true h1
  have h2 := of_decide_eq_true h2
  exact Prod.ext (by omega) (by omega)
theorem leD_sort (l : List (Nat × Nat)) : (l.mergeSort leD).Pairwise fun a b => leD a b = true :=
  List.pairwise_mergeSort (fun a b c h1 h2 => by
    have h1 := of_decide_eq_true h1
    have h2 := of_decide_eq_true h2
    exact decide_eq_true (by omega)) (fun a b => by
    unfold leD
    by_cases h : a.1 < b.1 ∨ a.1 = b.1 ∧ a.2 ≤ b.2
    · rw [decide_eq_true h, Bool.true_or]
    · rw [decide_eq_false h, Bool.false_or]
      exact decide_eq_true (by omega)) l
/-- the two darts of each edge -/
def dartsE (l : List (Nat × Nat)) : List (Nat × Nat) := l.flatMap fun e => [(e.1, e.2), (e.2, e.1)]
theorem dartsE_snoc (l : List (Nat × Nat)) (e : Nat × Nat) : dartsE (l ++ [e]) = dartsE l ++ [(e.1, e.2), (e.2, e.1)] := by simp [dartsE]
theorem dartsE_length : ∀ (l : List (Nat × Nat)), (dartsE l).length = 2 * l.length
  | [] => rfl
  | e :: l => by
    have := dartsE_length l
    simp only [dartsE, List.flatMap_cons, List.length_append, List.length_cons, List.length_nil] at this ⊢
    omega
theorem mem_dartsE {l : List (Nat × Nat)} {d : Nat × Nat} : d ∈ dartsE l ↔ d ∈ l ∨ (d.2, d.1) ∈ l := by
  rw [dartsE, List.mem_flatMap]
  constructor
  · rintro ⟨e, he, hd⟩
    simp only [List.mem_cons, List.not_mem_nil, or_false] at hd
    rcases hd with rfl | rfl
    · exact .inl he
    · exact .inr he
  · rintro (h | h)
    · exact ⟨d, h, by simp⟩
    · exact ⟨_, h, by simp⟩
theorem dartsE_nodup : ∀ {l : List (Nat × Nat)}, l.Nodup → (∀ e ∈ l, e.1 < e.2) → (dartsE l).Nodup
  | [], _, _ => by simp [dartsE]
  | e :: l, hn, hl => by
    rw [List.nodup_cons] at hn
    have ih := dartsE_nodup hn.2 fun f hf => hl f (.tail _ hf)
    have h1 := hl e (.head _)
    show ([(e.1, e.2), (e.2, e.1)] ++ dartsE l).Nodup
    refine List.nodup_append.2 ⟨by simp; omega, ih, fun a ha b hb h => ?_⟩
    subst h
    simp only [List.mem_cons, List.not_mem_nil, or_false] at ha
    rcases mem_dartsE.1 hb with hb | hb
    · rcases ha with rfl | rfl
      · exact hn.1 hb
      · have := hl _ (.tail _ hb); simp at this; omega
    · rcases ha with rfl | rfl
      · have := hl _ (.tail _ hb); simp at this; omega
      · exact hn.1 hb
variable {n : Int} {es : List E} {R : List (List Nat)} {o lab : Nat → Nat}
theorem nearS_sort (l : List (Nat × Nat)) (v : Nat) : (nearS l v).Pairwise fun a b => a ≤ b :=
  (List.pairwise_mergeSort (fun a b c h1 h2 => by simp at *; omega) (fun a b => by simp; omega) (nb l v)).imp fun h => by simpa using h
theorem dartsAll_sort (N : Nat) (l : List (Nat × Nat)) : (dartsAll N l).Pairwise fun a b => leD a b = true := by
  rw [dartsAll, dartsOf, List.pairwise_flatMap]
  refine ⟨fun v _ => ?_, List.pairwise_lt_range.imp fun {a b} h x hx y hy => ?_⟩
  · rw [vc, List.pairwise_map]
    exact (nearS_sort l v).imp fun h => decide_eq_true (.inr ⟨rfl, h⟩)
  · have h1 := (mem_vc.1 hx).1
    have h2 := (mem_vc.1 hy).1
    exact decide_eq_true (.inl (by omega))
theorem mem_dartsAll (hR : RightG n es) {d : Nat × Nat} : d ∈ dartsAll n.toNat (tn es) ↔ d ∈ tn es ∨ (d.2, d.1) ∈ tn es := by
  rw [← (darts_all hR (near_rot hR)).mem_iff, mem_darts, ((near_rot hR).sys hR).ed, List.mem_range]
  refine ⟨fun h => h.2, fun h => ⟨?_, h⟩⟩
  have hG := hR.good
  rcases h with h | h
  · have := hG.lt _ h; omega
  · have := hG.lt _ h; simp at this; omega
theorem dartsAll_nodup (hR : RightG n es) : (dartsAll n.toNat (tn es)).Nodup :=
  (darts_all hR (near_rot hR)).nodup_iff.1 (darts_nodup ((near_rot hR).sys hR) List.nodup_range)
theorem darts_sorted (hR : RightG n es) : (dartsE (tn es)).mergeSort leD = dartsAll n.toNat (tn es) := by
  have hp : (dartsE (tn es)).Perm (dartsAll n.toNat (tn es)) := perm_of_nodup (dartsE_nodup (tn_nodup hR) fun e he => (hR.good.lt e he).1) (dartsAll_nodup hR) fun d => by rw [mem_dartsE, mem_dartsAll hR]
  exact ((List.mergeSort_perm _ _).trans hp).eq_of_pairwise (fun a b _ _ h1 h2 => leD_anti h1 h2) (leD_sort _) (dartsAll_sort _ _)
theorem dartsAll_length (hR : RightG n es) : (dartsAll n.toNat (tn es)).length = 2 * es.length := by
  rw [← darts_sorted hR, List.length_mergeSort, dartsE_length, tn, List.length_map]
theorem dart_in (hR : RightG n es) (h : RotL n.toNat (tn es) R) {d : Nat × Nat} : d ∈ dartsAll n.toNat (tn es) ↔ d.2 ∈ rf R d.1 := by
  rw [mem_dartsAll hR, (h.sys hR).ed]
theorem dart_lt (hR : RightG n es) {d : Nat × Nat} (hd : d ∈ dartsAll n.toNat (tn es)) : d.1 < n.toNat ∧ d.2 < n.toNat := by
  have hG := hR.good
  rcases (mem_dartsAll hR).1 hd with h | h
  · have := hG.lt _ h; omega
  · have := hG.lt _ h; simp at this; omega
theorem all_inj (hR : RightG n es) (h : RotL n.toNat (tn es) R) : ∀ a ∈ dartsAll n.toNat (tn es), ∀ b ∈ dartsAll n.toNat (tn es), nxt (rf R) a = nxt (rf R) b → a = b := fun a ha b hb e =>
  nxt_inj (h.sys hR) a ((darts_all hR h).mem_iff.2 ha) b ((darts_all hR h).mem_iff.2 hb) e
theorem all_mem (hR : RightG n es) (h : RotL n.toNat (tn es) R) : ∀ a ∈ dartsAll n.toNat (tn es), nxt (rf R) a ∈ dartsAll n.toNat (tn es) := fun a ha =>
  (darts_all hR h).mem_iff.1 (nxt_mem (h.sys hR) (fun v _ u hu => List.mem_range.2 (h.lt hR hu).1) a ((darts_all hR h).mem_iff.2 ha))
/-- all faces -/
def facesR (N : Nat) (l : List (Nat × Nat)) (R : List (List Nat)) : List (List (Nat × Nat)) := facesL (nxt (rf R)) (2 * l.length + 1) (dartsAll N l)
theorem tn_len (es : List E) : (tn es).length = es.length := by rw [tn, List.length_map]
theorem facesR_dec (hR : RightG n es) (h : RotL n.toNat (tn es) R) : Dec (nxt (rf R)) (dartsAll n.toNat (tn es)) (facesR n.toNat (tn es) R) :=
  faces_dec (dartsAll_nodup hR) (all_inj hR h) (all_mem hR h) (by rw [dartsAll_length hR, tn_len]; omega)
theorem tr_of {α : Type} [DecidableEq α] {F : α → α} {d : α} : ∀ {l : List α} {x : α} {n : Nat}, st F l x d → l ≠ [] → d ∉ l.tail → l.length ≤ n → tr F d n x = l
  | [], _, _, _, h, _, _ => absurd rfl h
  | a :: l, x, 0, _, _, _, h => by simp at h
  | a :: l, x, n + 1, ⟨e, h⟩, _, hd, hn => by
    subst e
    cases l with
    | nil =>
      have : F x = d := h
      rw [tr, if_pos this]
    | cons b l =>
      have hb : F x = b := h.1
      have hd' : d ∉ b :: l := hd
      rw [tr, if_neg fun e => hd' (by rw [← e, hb]; exact .head _)]
      exact congrArg _ (tr_of h (by simp) (fun h => hd' (.tail _ h)) (by simpa using hn))
theorem InF.tr {α : Type} [DecidableEq α] {F : α → α} {ds : List α} {out : List (List α)} {d : α} {f : List α} (h : InF F ds out d f d) (hf : f ≠ []) {n : Nat} (hn : f.length ≤ n) : tr F d n d = f := by
  refine tr_of h.st hf (fun hd => ?_) hn
  cases f with
  | nil => exact absurd rfl hf
  | cons a f =>
    have e : d = a := h.st.1
    have := (List.nodup_cons.1 h.nd).1
    exact this (e ▸ hd)
theorem near_filter (hR : RightG n es) (h : RotL n.toNat (tn es) R) (u : Nat) : (List.range n.toNat).filter (fun v => decide (v ∈ rf R u)) = nearS (tn es) u := by
  refine (perm_of_nodup (m := nearS (tn es) u) (List.nodup_range.sublist List.filter_sublist) ((List.mergeSort_perm _ _).nodup_iff.2 (nb_nd hR.good (tn_nodup hR) u)) fun a => ?_).eq_of_pairwise (fun a b _ _ h1 h2 => Nat.le_antisymm h1 h2) ((List.pairwise_lt_range.sublist List.filter_sublist).imp fun h => Nat.le_of_lt h) (nearS_sort _ _)
  rw [List.mem_filter, mem_nearS, ← h.mem hR, List.mem_range, decide_eq_true_iff]
  exact ⟨fun h => h.2, fun h' => ⟨(h.lt hR h').1, h'⟩⟩
end Fil
end
section
namespace Go.Proofs.YtpajjnkmaebhcabGreat
open Go.RowKit Go.Sl Fil
set_option maxRecDepth 100000
set_option maxHeartbeats 8000000
set_option linter.unusedVariables false
set_option linter.unusedSimpArgs false
attribute [local irreducible] Code.wp wpList bodyPost wpQuiet Exit.then Exit.inBlock Post wpAnyH wpOp
theorem values1I_ok (b : Nat) (v : Value) (xs : List Int) (w : World) (S : FS) (hb : RB w S b 28 [v]) (hs : Shp v xs.length) (hr : RO w S v (iV xs)) :
    IterOK Tryz.prog 152 [.pointer (some ⟨b, 0, none⟩)] xs.length (fun i => [.int .i64 (xs.getD i 0)]) w S := by
  intro l LL hy M hM hsat
  have hm := hs.1
  simp only [maxLen] at hm
  refine enter (vs := [_, _]) Tryz.func152 rfl Tryz.ntmps152 rfl hsat ?_
  repeat' first
    | refine k_then ?_ | refine c_seq ?_ | refine c_region ?_ | refine s_nil ?_ | refine s_move (by exact rfl) (by exact rfl) ?_ | refine s_len (by exact rfl) (by exact rfl) (by assumption) ?_ | refine s_ld_rb (by exact rfl) (by exact rfl) (by assumption) (by exact rfl) ?_ | refine c_block ?_
  refine c_loop (fun x : Nat × List HP => x.1 ≤ xs.length ∧ LL x.1 x.2) (fun x => [(0, .func (.yield l) #[] #[]), (5, v), (6, .int .i64 (xs.length : Int)), (7, .int .i64 (x.1 : Int))]) (fun x => x.2) (fun x => xs.length - x.1) (0, M) (List.replicate M.length 0) ⟨by simp, hM⟩ (pick_id M) ⟨rfl, rfl, rfl, rfl, trivial⟩ ?_
  clear hM hsat
  rintro ⟨i, M⟩ ⟨hi, hM⟩
  dsimp only at hi hM ⊢
  by_cases hil : i < xs.length
  · have hci := iV_get hil
    generalize hreg : Code.region 3 _ _ = creg
    repeat' first
      | refine k_then ?_ | refine c_seq ?_ | refine c_region ?_ | refine s_nil ?_ | refine s_assign (by exact rfl) (by exact rfl) ?_ | refine s_lss (by exact rfl) (by exact rfl) (by exact rfl) ?_ | refine s_idx (by exact rfl) (by exact rfl) (by exact rfl) (by assumption) (by first | assumption | omega) ?_ | refine s_ld_ro (by exact rfl) (by exact rfl) (by assumption) (by assumption) ?_ | refine c_block ?_ | refine c_skip ?_ | (refine c_cond_p (by exact rfl) (fun h => ?_) (fun h => ?_) <;> try (exfalso; omega))
    subst hreg
    refine c_region_k 2 (by exact rfl) ?_
    simp only [List.take_succ_cons, List.take_zero, List.drop_succ_cons, List.drop_zero]
    repeat' first
      | refine k_then ?_ | refine s_nil ?_ | refine s_move (by exact rfl) (by exact rfl) ?_
    refine y_yield (K := LL (i + 1)) (by exact rfl) rfl (vs := [.int .i64 (xs.getD i 0)]) (by exact rfl) (fun W S' hm hs => hy i M W S' hil hM hm hs) fun M' hM' => ?_
    refine y_rest (by exact rfl) ?_
    repeat' first
      | refine k_then ?_ | refine c_region ?_ | refine s_nil ?_ | refine s_move (by exact rfl) (by exact rfl) ?_ | refine s_add (by exact rfl) (by exact rfl) (by exact rfl) (by omega) ?_ | refine s_not (by exact rfl) (by exact rfl) ?_ | refine c_skip ?_ | refine k_blk ?_ | refine c_cond_f (by exact rfl) ?_
    refine c_round (i + 1, M') (List.replicate M'.length 0) (pick_id M') ⟨rfl, rfl, rfl, rfl, trivial⟩ ⟨by dsimp only; omega, hM'⟩ (by dsimp only; omega)
  · repeat' first
      | refine k_then ?_ | refine c_seq ?_ | refine c_region ?_ | refine s_nil ?_ | refine s_lss (by exact rfl) (by exact rfl) (by exact rfl) ?_ | refine c_exit ?_ | refine k_then_exit ?_ | refine k_blk_eq ?_ | (refine c_cond_p (by exact rfl) (fun h => ?_) (fun h => ?_) <;> try (exfalso; omega))
    obtain rfl : i = xs.length := by omega
    refine ret0 (List.replicate M.length 0) rfl (pick_id M) hM
theorem appendSeqI_ok (it : FuncId) (caps : List Value) (xs : List Int) (w : World) [FnTy Tryz.prog it] (hN : xs.length ≤ 1048576)
    (hit : ∀ w' S' Sf, Mod w No w' Sf → (∀ k, S' k → Sf k) → IterOK Tryz.prog it caps xs.length (fun i => [.int .i64 (xs.getD i 0)]) w' S') :
    Calls Tryz.prog 165 #[.slice none 0 0, .func (.func it) #[] caps.toArray] w (Post w No fun r L' => L' = [rowHP r 3 1 xs.length (iV xs)]) := by
  refine enterM0 (vs := [_, _]) Tryz.func165 rfl Tryz.ntmps165 rfl ?_
  generalize hrest : Code.rangeFunc _ _ _ _ = crange
  repeat' first
    | refine k_then ?_ | refine c_seq ?_ | refine c_region ?_ | refine s_nil ?_ | refine s_move (by exact rfl) (by exact rfl) ?_ | refine s_assign (by exact rfl) (by exact rfl) ?_ | refine o_box (by exact rfl) (by exact rfl) (fun b => ?_) | refine c_block ?_
  subst hrest
  refine c_nil 3 1 ?_
  refine c_range (ps := [7]) it caps _ [] xs.length (fun i => [.int .i64 (xs.getD i 0)]) (fun i M => i ≤ xs.length ∧ ∃ vi, M = [rowHP vi 3 1 i (iV (xs.take i)), boxHP b 28 [vi]]) (List.append_nil _).symm (by exact rfl) (by exact rfl) (fun _ => rfl) (fun w' S' M h => by
    obtain ⟨Sf, hm, hS⟩ := h.old
    exact hit w' S' Sf hm hS) ⟨Nat.zero_le _, .slice none 0 0, rfl⟩ ?_ ?_
  · rintro i _ _ W S' l D r m hi ⟨_, vi, rfl⟩ rfl hlent hst
    obtain ⟨x, hx⟩ : ∃ x, xs[i]? = some x := ⟨_, List.getElem?_eq_getElem hi⟩
    have hg : xs.getD i 0 = x := by rw [List.getD_eq_getElem?_getD, hx]; rfl
    have htk : xs.take (i + 1) = xs.take i ++ [x] := by rw [List.take_add_one, hx]; rfl
    rw [hg]
    simp only [List.zip_cons_cons, List.zip_nil_left, List.reverse_cons, List.reverse_nil, List.nil_append, List.cons_append]
    refine x_region (by exact rfl) ?_
    repeat' first
      | refine k_then ?_ | refine s_nil ?_ | refine s_assign (by exact rfl) (by exact rfl) ?_
    refine r_begin (j := 0) rfl hst ?_
    refine x_block ?_
    refine x_region (by exact rfl) ?_
    repeat' first
      | refine s_move (by exact rfl) (by exact rfl) ?_ | refine s_ld_box (by exact rfl) (by exact rfl) (by exact .tail _ (.tail _ (.tail _ (.head _)))) (by exact rfl) ?_
    refine o_mk [.int .i64 x] (by exact rfl) (by exact rfl) rfl (by simp [Value.cells]) (by simp) (by simp) fun vt hvt => ?_
    skip
    refine o_append_row (bytes := 8) (i := 3) (by exact rfl) (by exact rfl) (by exact rfl) (by exact rfl) (by exact .head _) (by exact rfl) (by simp [Value.cells, Value.oneCell']) (by omega) fun v3 hv3 => ?_
    skip
    refine o_st_box (i := 4) (by exact rfl) (by exact rfl) (by exact rfl) hv3.one (by simp) ?_
    repeat' first
      | refine s_nil ?_ | refine k_blk ?_
    refine r_end (j := 1) [1, 1, 1, 1] rfl rfl fun W2 h2 => ⟨rfl, ?_⟩
    obtain ⟨S2, hm2, hl2⟩ := h2
    refine ⟨_, S2, ⟨_, ⟨by omega, v3, rfl⟩, rfl⟩, hm2, ?_⟩
    rw [htk, show iV (xs.take i ++ [x]) = iV (xs.take i) ++ [.int .i64 x] by simp [iV]]
    exact hl2
  · rintro _ l D r ⟨_, vi, rfl⟩
    refine know_row (v := vi) (.tail _ (.tail _ (.head _))) fun hvi _ => ?_
    refine m_blk ?_
    refine m_then ?_
    refine m_seq ?_
    refine m_region (by exact rfl) ?_
    repeat' first
      | refine s_nil ?_ | refine s_assign (by exact rfl) (by exact rfl) ?_ | refine s_ld_box (by exact rfl) (by exact rfl) (by exact .tail _ (.tail _ (.tail _ (.head _)))) (by exact rfl) ?_
    refine m_then ?_
    refine m_ret ?_
    refine m_end (j := 1) rfl ?_
    refine ret1 [2] rfl rfl rfl ?_
    rw [List.take_length]
theorem CollectI_ok (it : FuncId) (caps : List Value) (xs : List Int) (w : World) [FnTy Tryz.prog it] (hN : xs.length ≤ 1048576)
    (hit : ∀ w' S' Sf, Mod w No w' Sf → (∀ k, S' k → Sf k) → IterOK Tryz.prog it caps xs.length (fun i => [.int .i64 (xs.getD i 0)]) w' S') :
    Calls Tryz.prog 151 #[.func (.func it) #[] caps.toArray] w (Post w No fun r L' => L' = [rowHP r 3 1 xs.length (iV xs)]) := by
  refine enter0 (vs := [_]) Tryz.func151 rfl Tryz.ntmps151 rfl ?_
  repeat' first
    | refine k_then ?_ | refine c_seq ?_ | refine c_region ?_ | refine s_nil ?_ | refine s_move (by exact rfl) (by exact rfl) ?_ | refine s_assign (by exact rfl) (by exact rfl) ?_
  refine o_call (by exact rfl) (by exact rfl) (fun w1 h => appendSeqI_ok it caps xs w1 hN fun w' S' Sf hm hS => h.mod0.elim fun S1 hm1 => hit w' S' _ (mod_trans0 hm1 hm) fun k hk => .inr (hS k hk)) ?_
  rintro vo _ rfl
  repeat' first
    | refine k_then ?_ | refine s_nil ?_ | refine s_assign (by exact rfl) (by exact rfl) ?_ | refine c_ret ?_
  refine ret1 [0] rfl rfl rfl rfl
theorem SortedI_ok (it : FuncId) (caps : List Value) (xs : List Int) (w : World) [FnTy Tryz.prog it] (hN : xs.length ≤ 1048576)
    (hit : ∀ w' S' Sf, Mod w No w' Sf → (∀ k, S' k → Sf k) → IterOK Tryz.prog it caps xs.length (fun i => [.int .i64 (xs.getD i 0)]) w' S') :
    Calls Tryz.prog 133 #[.func (.func it) #[] caps.toArray] w (Post w No fun r L' => L' = [rowHP r 3 1 xs.length (iV (xs.mergeSort fun x y => decide (x ≤ y)))]) := by
  refine enter0 (vs := [_]) Tryz.func133 rfl Tryz.ntmps133 rfl ?_
  repeat' first
    | refine k_then ?_ | refine c_seq ?_ | refine c_region ?_ | refine s_nil ?_ | refine s_move (by exact rfl) (by exact rfl) ?_ | refine s_assign (by exact rfl) (by exact rfl) ?_
  refine o_call (by exact rfl) (by exact rfl) (fun w1 h => CollectI_ok it caps xs w1 hN fun w' S' Sf hm hS => h.mod0.elim fun S1 hm1 => hit w' S' _ (mod_trans0 hm1 hm) fun k hk => .inr (hS k hk)) ?_
  rintro vo _ rfl
  repeat' first
    | refine k_then ?_ | refine c_seq ?_ | refine c_region ?_ | refine s_nil ?_ | refine s_move (by exact rfl) (by exact rfl) ?_ | refine s_assign (by exact rfl) (by exact rfl) ?_
  refine s_lend [rowHP vo 3 1 xs.length (iV xs)] _ (by exact rfl) (by exact rfl) (by exact rfl) (fun w S h => sort_row (sats_mem h.own (.head _)) (by omega)) ?_
  rintro _ _ ⟨rfl, rfl⟩
  repeat' first
    | refine k_then ?_ | refine c_seq ?_ | refine c_region ?_ | refine s_nil ?_ | refine s_move (by exact rfl) (by exact rfl) ?_ | refine s_assign (by exact rfl) (by exact rfl) ?_ | refine c_ret ?_
  refine ret1 [0] rfl rfl rfl rfl
end Go.Proofs.YtpajjnkmaebhcabGreat
end
section
set_option linter.unusedVariables false
namespace Fil
/-- is a system right -/
def rotB (n : Int) (es : List E) (ls : List (List Int)) (v : Nat) : Bool := decide ((ls.getD v []).mergeSort (fun x y => decide (x ≤ y)) = (nearS (tn es) v).map fun (k : Nat) => (k : Int))
def rotK (n : Int) (es : List E) (ls : List (List Int)) : Int :=
  if rightK n es ≠ 0 then 1 else if (ls.length : Int) ≠ n then 12 else if (List.range n.toNat).all (rotB n es ls) then 0 else 12
end Fil
namespace Go.Sl
open Go Go.RowKit
/-- rows that are read, by rows of integers -/
structure ROsI (w : World) (S : FS) (v : Value) (hs : List Value) (ls : List (List Int)) : Prop where
  shp : Shp v ls.length
  len : hs.length = ls.length
  ro : RO w S v hs
  kid : ∀ (i : Nat) h l, hs[i]? = some h → ls[i]? = some l → Shp h l.length ∧ RO w S h (iV l)
theorem rosI_old {w0 w : World} {S0 : FS} {L : List HP} {v : Value} {hs : List Value} {ls : List (List Int)} (h : St w0 S0 L w) (hr : ROsI w0 S0 v hs ls) : ROsI w No v hs ls :=
  ⟨hr.shp, hr.len, ro_old h hr.ro, fun i x l h1 h2 => ⟨(hr.kid i x l h1 h2).1, ro_old h (hr.kid i x l h1 h2).2⟩⟩
def intL (R : List (List Nat)) : List (List Int) := R.map fun l => l.map fun (k : Nat) => (k : Int)
theorem ROs.int {w : World} {S : FS} {v : Value} {hs : List Value} {R : List (List Nat)} (h : ROs w S v hs R) : ROsI w S v hs (intL R) :=
  ⟨by simpa [intL] using h.shp, by simpa [intL] using h.len, h.ro, fun i x l h1 h2 => by
    simp only [intL, List.getElem?_map, Option.map_eq_some_iff] at h2
    obtain ⟨l', h2, rfl⟩ := h2
    have := h.kid i x l' h1 h2
    rw [← nV_iV]
    exact ⟨by simpa using this.1, this.2⟩⟩
theorem ROsI.nat {w : World} {S : FS} {v : Value} {hs : List Value} {R : List (List Nat)} (h : ROsI w S v hs (intL R)) : ROs w S v hs R :=
  ⟨by simpa [intL] using h.shp, by simpa [intL] using h.len, h.ro, fun i x l h1 h2 => by
    have := h.kid i x (l.map fun (k : Nat) => (k : Int)) h1 (by simp [intL, h2])
    rw [← nV_iV] at this
    exact ⟨by simpa using this.1, this.2⟩⟩
end Go.Sl
namespace Go.Proofs.YtpajjnkmaebhcabGreat
open Go.RowKit Go.Sl Fil
set_option maxRecDepth 100000
set_option maxHeartbeats 8000000
set_option linter.unusedVariables false
set_option linter.unusedSimpArgs false
attribute [local irreducible] Code.wp wpList bodyPost wpQuiet Exit.then Exit.inBlock Post wpAnyH wpOp
theorem Equal_ok (a b : Value) (x y : List Int) (w : World) (ha : Shp a x.length) (hb : Shp b y.length) (hra : RO w No a (iV x)) (hrb : RO w No b (iV y)) :
    Calls Tryz.prog 146 #[a, b] w (Post w No (Just (.bool (decide (x = y))))) := by
  have hm := ha.1
  simp only [maxLen] at hm
  refine enter0 (vs := [_, _]) Tryz.func146 rfl Tryz.ntmps146 rfl ?_
  repeat' first
    | refine k_then ?_ | refine c_seq ?_ | refine c_region ?_ | refine s_nil ?_ | refine s_move (by exact rfl) (by exact rfl) ?_ | refine s_assign (by exact rfl) (by exact rfl) ?_ | refine s_neq (by exact rfl) (by exact rfl) (by exact rfl) ?_ | refine s_len (by exact rfl) (by exact rfl) (by assumption) ?_ | refine c_block ?_ | refine c_skip ?_ | refine c_ret ?_ | refine k_then_ret ?_ | (refine c_cond_p (by exact rfl) (fun h => ?_) (fun h => ?_) <;> try (exfalso; omega))
  · refine ret1 [] rfl rfl rfl ⟨congrArg Value.bool ?_, rfl⟩
    exact (decide_eq_false fun e => h (by rw [e])).symm
  · refine c_loop (fun k : Nat => k ≤ x.length ∧ x.take k = y.take k) (fun k => [(0, a), (1, b), (12, .int .i64 (x.length : Int)), (13, .int .i64 (k : Int))]) (fun _ => []) (fun k => x.length - k) 0 [] ⟨by omega, rfl⟩ rfl ⟨rfl, rfl, rfl, rfl, trivial⟩ ?_
    rintro k ⟨hk, hq⟩
    by_cases hlt : k < x.length
    · obtain ⟨c, hc⟩ : ∃ c, x[k]? = some c := ⟨_, List.getElem?_eq_getElem hlt⟩
      obtain ⟨d, hd⟩ : ∃ d, y[k]? = some d := ⟨_, List.getElem?_eq_getElem (by omega)⟩
      have h1 : (iV x)[k * 1]? = some (.int .i64 c) := by simp [iV, hc]
      have h2 : (iV y)[k * 1]? = some (.int .i64 d) := by simp [iV, hd]
      repeat' first
        | refine k_then ?_ | refine c_seq ?_ | refine c_region ?_ | refine s_nil ?_ | refine s_move (by exact rfl) (by exact rfl) ?_ | refine s_assign (by exact rfl) (by exact rfl) ?_ | refine s_lss (by exact rfl) (by exact rfl) (by exact rfl) ?_ | refine c_block ?_ | refine c_skip ?_ | (refine c_cond_p (by exact rfl) (fun h => ?_) (fun h => ?_) <;> try (exfalso; omega))
      refine p_begin0 [(0, true), (1, true), (2, true), (3, true), (4, true), (5, true), (6, true), (7, true), (8, true)] (by kernel_rfl) ?_
      repeat' first
        | refine p_nil ?_
        | (refine p_at (by exact rfl) ?_
           first
            | refine t_move (by exact rfl) (by exact rfl) (by exact fun _ h => h) ?_ | refine t_neq (by exact rfl) (by exact rfl) (by exact rfl) (by exact fun _ h => h) ?_ | refine t_idx (by exact rfl) (by exact rfl) (by exact rfl) (by assumption) (by first | assumption | omega) (by exact fun _ h => h) ?_ | refine t_ld_ro (by exact rfl) (by exact rfl) (by assumption) (by assumption) (by exact fun _ h => h) ?_)
      repeat' first
        | refine k_then ?_ | refine c_seq ?_ | refine c_region ?_ | refine s_nil ?_ | refine s_move (by exact rfl) (by exact rfl) ?_ | refine s_assign (by exact rfl) (by exact rfl) ?_ | refine s_add (by exact rfl) (by exact rfl) (by exact rfl) (by omega) ?_ | refine c_skip ?_ | refine c_ret ?_ | refine k_then_ret ?_ | refine k_blk ?_ | refine k_blk_ret ?_ | (refine c_cond_p (by exact rfl) (fun h => ?_) (fun h => ?_) <;> try (exfalso; omega))
      · refine ret1 [] rfl rfl rfl ⟨congrArg Value.bool ?_, rfl⟩
        refine (decide_eq_false fun e => ?_).symm
        subst e
        rw [hc] at hd
        simp at hd
        omega
      · refine c_round (k + 1) [] (by exact rfl) (by exact ⟨rfl, rfl, rfl, rfl, trivial⟩) ⟨by omega, ?_⟩ (by omega)
        have : c = d := by omega
        subst this
        rw [List.take_add_one, List.take_add_one, hq, hc, hd]
    · repeat' first
        | refine k_then ?_ | refine c_seq ?_ | refine c_region ?_ | refine s_nil ?_ | refine s_assign (by exact rfl) (by exact rfl) ?_ | refine s_lss (by exact rfl) (by exact rfl) (by exact rfl) ?_ | refine c_exit ?_ | refine c_ret ?_ | refine k_then_exit ?_ | refine k_blk_eq ?_ | (refine c_cond_p (by exact rfl) (fun h => ?_) (fun h => ?_) <;> try (exfalso; omega))
      refine ret1 [] rfl rfl rfl ⟨congrArg Value.bool ?_, rfl⟩
      refine (decide_eq_true ?_).symm
      rw [List.take_of_length_le (by omega), List.take_of_length_le (by omega)] at hq
      exact hq
theorem rotRight_ok (n : Int) (v : Value) (es : List E) (vr : Value) (hr0 : List Value) (ls : List (List Int)) (w : World) (hs : Shp v es.length) (hr : RO w No v (esV es)) (hm : es.length < 4611686018427387904) (hR : ROsI w No vr hr0 ls) (hlen : ∀ l ∈ ls, l.length ≤ 1048576) :
    Calls Tryz.prog 117 #[.agg #[.int .i64 n, v], vr] w (Post w No (Just (.int .i64 (rotK n es ls)))) := by
  have hsr := hR.shp
  have hrr := hR.ro
  have hls := hsr.1
  simp only [maxLen] at hls
  refine enter0 (vs := [_, _]) Tryz.func117 rfl Tryz.ntmps117 rfl ?_
  repeat' first
    | refine k_then ?_ | refine c_seq ?_ | refine c_region ?_ | refine s_nil ?_ | refine s_assign (by exact rfl) (by exact rfl) ?_ | refine s_ldk_box (by exact rfl) (by exact rfl) (by exact .head _) (by exact rfl) (by exact rfl) ?_ | refine o_box (by exact rfl) (by exact rfl) (fun b => ?_)
  refine s_call (by exact rfl) (by exact rfl) (fun w h => Right_ok n v es w hs (ro_old h hr) hm) ?_
  repeat' first
    | refine k_then ?_ | refine c_seq ?_ | refine c_region ?_ | refine s_nil ?_ | refine s_move (by exact rfl) (by exact rfl) ?_ | refine s_assign (by exact rfl) (by exact rfl) ?_ | refine s_fa (by exact rfl) (by exact rfl) ?_ | refine s_ld_box (by exact rfl) (by exact rfl) (by exact .head _) (by exact rfl) ?_ | refine s_neq (by exact rfl) (by exact rfl) (by exact rfl) ?_ | refine s_len (by exact rfl) (by exact rfl) (by assumption) ?_ | refine s_ldk_box (by exact rfl) (by exact rfl) (by exact .head _) (by exact rfl) (by exact rfl) ?_ | refine c_skip ?_ | refine c_ret ?_ | refine k_then_ret ?_ | (refine c_cond_p (by exact rfl) (fun h => ?_) (fun h => ?_) <;> try (exfalso; omega))
  · refine ret1 [] rfl rfl rfl ⟨?_, rfl⟩
    rw [rotK, if_pos h]
  · rename_i h0
    have h1 := h
    refine ret1 [] rfl rfl rfl ⟨?_, rfl⟩
    rw [rotK, if_neg h0, if_pos h1]
  rename_i h0
  have h1 := h
  have hRG := right_iff.1 (Classical.byContradiction h0)
  have hln : ls.length = n.toNat := by have := hRG.lo; omega
  refine o_call (by exact rfl) (by exact rfl) (fun w h => Near_ok n v es w hs (ro_old h hr) hRG) ?_
  rintro vn _ ⟨hn, hnl, rfl⟩
  refine know_row (v := vn) (.head _) fun hvn _ => ?_
  repeat' first
    | refine k_then ?_ | refine s_nil ?_ | refine s_move (by exact rfl) (by exact rfl) ?_ | refine s_len (by exact rfl) (by exact rfl) (by assumption) ?_ | refine c_block ?_
  have hlo := hRG.lo
  have hhi := hRG.hi
  have hAl : ∀ x, (nearS (tn es) x).length ≤ 4194304 := fun x => by
    have h1 := nb_length (tn es) x
    have h2 := hRG.many
    simp only [nearS, List.length_mergeSort]
    simp only [tn, List.length_map] at h1
    simp only [tn]
    omega
  have hrotK : rotK n es ls = if (List.range n.toNat).all (rotB n es ls) then 0 else 12 := by rw [rotK, if_neg h0, if_neg h1]
  rw [hrotK]
  have hBd : ∀ x, rotB n es ls x = decide ((ls.getD x []).mergeSort (fun x y => decide (x ≤ y)) = (nearS (tn es) x).map fun (k : Nat) => (k : Int)) := fun x => rfl
  generalize rotB n es ls = B at *
  generalize nearS (tn es) = A at *
  clear hrotK h1 h h0
  generalize hN : n.toNat = N at *
  have hnN : n = (N : Int) := by omega
  subst hnN
  refine c_loop (fun k : Nat => k ≤ N ∧ ∀ u, u < k → B u = true) (fun k => [(1, vr), (2, .pointer (some ⟨b, 0, none⟩)), (16, vn), (17, .int .i64 (N : Int)), (18, .int .i64 (k : Int))]) (fun _ => [rowHP vn 28 1 N hn, starHP (kids rowN hn ((List.range N).map A))]) (fun k => N - k) 0 [0, 0] ⟨Nat.zero_le _, by omega⟩ rfl ⟨rfl, rfl, rfl, rfl, rfl, trivial⟩ ?_
  rintro k ⟨hk, hq⟩
  by_cases hlt : k < N
  · obtain ⟨hx, hhx⟩ : ∃ x, hr0[k]? = some x := ⟨_, List.getElem?_eq_getElem (by have := hR.len; omega)⟩
    obtain ⟨l, hl⟩ : ∃ l, ls[k]? = some l := ⟨_, List.getElem?_eq_getElem (by omega)⟩
    obtain ⟨hsx, hrx⟩ := hR.kid k hx l hhx hl
    obtain ⟨hy, hhy⟩ : ∃ x, hn[k]? = some x := ⟨_, List.getElem?_eq_getElem (by omega)⟩
    have hAk : ((List.range N).map A)[k]? = some (A k) := by simp [hlt]
    have hlk := hlen l (List.mem_of_getElem? hl)
    have hgd : ls.getD k [] = l := by rw [List.getD_eq_getElem?_getD, hl]; rfl
    have h1' : hr0[k * 1]? = some hx := by rw [Nat.mul_one]; exact hhx
    have h2' : hn[k * 1]? = some hy := by rw [Nat.mul_one]; exact hhy
    repeat' first
      | refine k_then ?_ | refine c_seq ?_ | refine c_region ?_ | refine s_nil ?_ | refine s_move (by exact rfl) (by exact rfl) ?_ | refine s_assign (by exact rfl) (by exact rfl) ?_ | refine s_lss (by exact rfl) (by exact rfl) (by exact rfl) ?_ | refine s_idx (by exact rfl) (by exact rfl) (by exact rfl) (by assumption) (by first | assumption | omega) ?_ | refine s_ld_ro (by exact rfl) (by exact rfl) (by assumption) (by assumption) ?_ | refine s_ld_row (by exact rfl) (by exact rfl) (by exact .head _) (by assumption) ?_ | refine c_block ?_ | refine c_skip ?_ | (refine c_cond_p (by exact rfl) (fun h => ?_) (fun h => ?_) <;> try (exfalso; omega))
    refine o_call (by exact rfl) (by exact rfl) (fun w h => Values_ok hx w hsx.one) ?_
    rintro vf _ ⟨bf, rfl, rfl⟩
    skip
    refine o_call (by exact rfl) (by exact rfl) (fun w h => SortedI_ok _ [.pointer (some ⟨bf, 0, none⟩)] l w hlk fun w' S' Sf hm hS => values1I_ok bf hx l w' S' ((rb_own h (.head _)).fwd hm hS) hsx (RO.fwd (ro_old h hrx) hm hS)) ?_
    rintro vs _ rfl
    have hros : ∀ w1, St w No [rowHP vs 3 1 l.length (iV (l.mergeSort fun x y => decide (x ≤ y))), boxHP bf 28 [hx], rowHP vn 28 1 N hn, starHP (kids rowN hn ((List.range N).map A))] w1 → ROs w1 No vn hn ((List.range N).map A) := fun w1 h => ros_own h (.tail _ (.tail _ (.head _))) (by simp) (.tail _ (.tail _ (.tail _ (.head _))))
    refine know_row (v := vs) (.head _) fun hvs _ => ?_
    repeat' first
      | refine s_move (by exact rfl) (by exact rfl) ?_
    refine s_call (vs := [vs, hy]) (by exact rfl) (by exact rfl) (fun w h => by
      have hk := (hros w h).kid k hy (A k) hhy hAk
      rw [nV_iV] at hk
      exact Equal_ok vs hy (l.mergeSort fun x y => decide (x ≤ y)) ((A k).map fun (k : Nat) => (k : Int)) w (by simpa using hvs) (by simpa using hk.1) (ro_own h (.head _)) hk.2) ?_
    rw [← hgd, ← hBd, hgd]
    cases hB : B k with
    | false =>
      repeat' first
        | refine k_then ?_ | refine c_seq ?_ | refine c_region ?_ | refine s_nil ?_ | refine s_assign (by exact rfl) (by exact rfl) ?_ | refine s_not (by exact rfl) (by exact rfl) ?_ | refine c_ret ?_ | refine k_then_ret ?_ | refine k_blk_ret ?_ | refine c_cond_t (by exact rfl) ?_
      refine ret1 [] rfl rfl rfl ⟨?_, rfl⟩
      rw [if_neg]
      intro hall
      have := List.all_eq_true.1 hall k (List.mem_range.2 hlt)
      rw [hB] at this; simp at this
    | true =>
      repeat' first
        | refine k_then ?_ | refine c_region ?_ | refine s_nil ?_ | refine s_move (by exact rfl) (by exact rfl) ?_ | refine s_add (by exact rfl) (by exact rfl) (by exact rfl) (by omega) ?_ | refine s_not (by exact rfl) (by exact rfl) ?_ | refine c_skip ?_ | refine k_blk ?_ | refine c_cond_f (by exact rfl) ?_
      refine c_round (k + 1) [2, 2] (by exact rfl) (by exact ⟨rfl, rfl, rfl, rfl, rfl, trivial⟩) ⟨by omega, fun u hu => ?_⟩ (by omega)
      by_cases e : u = k
      · rw [e]; exact hB
      · exact hq u (by omega)
  · repeat' first
      | refine k_then ?_ | refine c_seq ?_ | refine c_region ?_ | refine s_nil ?_ | refine s_assign (by exact rfl) (by exact rfl) ?_ | refine s_lss (by exact rfl) (by exact rfl) (by exact rfl) ?_ | refine c_exit ?_ | refine c_ret ?_ | refine k_then_exit ?_ | refine k_blk_eq ?_ | (refine c_cond_p (by exact rfl) (fun h => ?_) (fun h => ?_) <;> try (exfalso; omega))
    refine ret1 [] rfl rfl rfl ⟨?_, rfl⟩
    rw [if_pos]
    rw [List.all_eq_true]
    intro u hu
    exact hq u (by have := List.mem_range.1 hu; omega)
end Go.Proofs.YtpajjnkmaebhcabGreat
end
section
set_option linter.unusedVariables false
namespace Fil
def nextK (ls : List (List Int)) (u v : Int) : Int × Int × Bool :=
  if v < 0 ∨ (ls.length : Int) ≤ v then (0, 0, false) else
    match (ls.getD v.toNat []).findIdx? fun y => decide (y = u) with
    | none => (0, 0, false)
    | some i => (v, (ls.getD v.toNat []).getD ((i + 1) % (ls.getD v.toNat []).length) 0, true)
end Fil
namespace Go.Proofs.YtpajjnkmaebhcabGreat
open Go.RowKit Go.Sl Fil
set_option maxRecDepth 100000
set_option maxHeartbeats 8000000
set_option linter.unusedVariables false
set_option linter.unusedSimpArgs false
attribute [local irreducible] Code.wp wpList bodyPost wpQuiet Exit.then Exit.inBlock Post wpAnyH wpOp
def dV (u v : Int) : Value := .agg #[.int .i64 u, .int .i64 v]
def nextV (p : Int × Int × Bool) : Value := .tuple #[dV p.1 p.2.1, .bool p.2.2]
theorem refNext_ok (vr : Value) (hr0 : List Value) (ls : List (List Int)) (u v : Int) (w : World) (hR : ROsI w No vr hr0 ls) :
    Calls Tryz.prog 92 #[vr, dV u v] w (Post w No (Just (nextV (nextK ls u v)))) := by
  have hsr := hR.shp
  have hrr := hR.ro
  have hls := hsr.1
  simp only [maxLen] at hls
  refine enter0 (vs := [_, _]) Tryz.func92 rfl Tryz.ntmps92 rfl ?_
  unfold dV
  repeat' first
    | refine k_then ?_ | refine c_seq ?_ | refine c_region ?_ | refine s_nil ?_ | refine s_move (by exact rfl) (by exact rfl) ?_ | refine s_assign (by exact rfl) (by exact rfl) ?_ | refine s_fa (by exact rfl) (by exact rfl) ?_ | refine s_ld_box (by exact rfl) (by exact rfl) (by exact .tail _ (.head _)) (by exact rfl) ?_ | refine s_lss (by exact rfl) (by exact rfl) (by exact rfl) ?_ | refine s_idxi (by exact rfl) (by exact rfl) (by exact rfl) (by assumption) (by first | assumption | omega) ?_ | refine s_pick_t (by exact rfl) (by exact rfl) (by exact rfl) ?_ | refine s_pick_f (by exact rfl) (by exact rfl) (by exact rfl) ?_ | refine o_box (by exact rfl) (by exact rfl) (fun b => ?_) | refine o_alloc (by exact rfl) (fun b => ?_) | refine c_skip ?_ | (refine c_cond_p (by exact rfl) (fun h => ?_) (fun h => ?_) <;> try (exfalso; omega)) | refine c_cond_t (by exact rfl) ?_ | (refine g_case (by exact rfl) (by exact rfl) (fun h => ?_) (fun h => ?_) <;> try (exfalso; omega)) | refine g_skip (by exact rfl) (by exact rfl) (by exact rfl) (by exact rfl) ?_ | refine w_move (by exact rfl) (by exact rfl) (by exact rfl) (by exact rfl) ?_ | refine w_fa (by exact rfl) (by exact rfl) (by exact rfl) (by exact rfl) ?_ | refine w_ld_box (by exact rfl) (by exact rfl) (by exact rfl) (by exact rfl) (by exact .tail _ (.head _)) (by exact rfl) ?_ | refine w_geq (by exact rfl) (by exact rfl) (by exact rfl) (by exact rfl) (by exact rfl) ?_ | refine w_len (by exact rfl) (by exact rfl) (by exact rfl) (by exact rfl) (by assumption) ?_
  · have hK : nextK ls u v = (0, 0, false) := by rw [nextK, if_pos (.inl h)]
    rw [hK]
    refine o_build (cs := [.int .i64 0, .int .i64 0]) [] (by exact rfl) (by exact rfl) (by simp) (by exact rfl) ?_
    skip
    refine o_stk_box (i := 0) (us := [.int .i64 0, .int .i64 0]) (by exact rfl) (by exact rfl) (by exact rfl) (by exact rfl) (by exact rfl) (by simp [Value.oneCell']) (by simp [Value.cells]) ?_
    repeat' first
      | refine k_then ?_ | refine s_nil ?_ | refine s_assign (by exact rfl) (by exact rfl) ?_ | refine c_ret ?_ | refine k_then_ret ?_
    refine retL [.cell 4 100, .tmp 5] [.agg #[.int .i64 0, .int .i64 0], .bool false] [] rfl ⟨res_cellk (cs := [.int .i64 0, .int .i64 0]) (k := 2) (off := 0) (us := [.int .i64 0, .int .i64 0]) rfl (.head _) rfl rfl, res_tmp rfl, trivial⟩ (by exact rfl) ⟨?_, rfl⟩
    rfl
  · have hK : nextK ls u v = (0, 0, false) := by rw [nextK, if_pos (.inr (by omega))]
    rw [hK]
    refine o_build (cs := [.int .i64 0, .int .i64 0]) [] (by exact rfl) (by exact rfl) (by simp) (by exact rfl) ?_
    skip
    refine o_stk_box (i := 0) (us := [.int .i64 0, .int .i64 0]) (by exact rfl) (by exact rfl) (by exact rfl) (by exact rfl) (by exact rfl) (by simp [Value.oneCell']) (by simp [Value.cells]) ?_
    repeat' first
      | refine k_then ?_ | refine s_nil ?_ | refine s_assign (by exact rfl) (by exact rfl) ?_ | refine c_ret ?_ | refine k_then_ret ?_
    refine retL [.cell 4 100, .tmp 5] [.agg #[.int .i64 0, .int .i64 0], .bool false] [] rfl ⟨res_cellk (cs := [.int .i64 0, .int .i64 0]) (k := 2) (off := 0) (us := [.int .i64 0, .int .i64 0]) rfl (.head _) rfl rfl, res_tmp rfl, trivial⟩ (by exact rfl) ⟨?_, rfl⟩
    rfl
  rename_i b0 h0
  have hvn : v.toNat < ls.length := by omega
  obtain ⟨hx, hhx⟩ : ∃ x, hr0[v.toNat]? = some x := ⟨_, List.getElem?_eq_getElem (by have := hR.len; omega)⟩
  obtain ⟨l, hl⟩ : ∃ l, ls[v.toNat]? = some l := ⟨_, List.getElem?_eq_getElem hvn⟩
  obtain ⟨hsx, hrx⟩ := hR.kid v.toNat hx l hhx hl
  have hgd : ls.getD v.toNat [] = l := by rw [List.getD_eq_getElem?_getD, hl]; rfl
  have h1' : hr0[v.toNat * 1]? = some hx := by rw [Nat.mul_one]; exact hhx
  have hK : nextK ls u v = match l.findIdx? fun y => decide (y = u) with
    | none => (0, 0, false)
    | some i => (v, l.getD ((i + 1) % l.length) 0, true) := by rw [nextK, if_neg (by omega), hgd]
  rw [hK]
  have hm := hsx.1
  simp only [maxLen] at hm
  repeat' first
    | refine k_then ?_ | refine c_seq ?_ | refine c_region ?_ | refine s_nil ?_ | refine s_assign (by exact rfl) (by exact rfl) ?_ | refine s_ld_ro (by exact rfl) (by exact rfl) (by assumption) (by assumption) ?_ | refine c_block ?_
  refine c_loop (fun k : Nat => k ≤ l.length ∧ ∀ y ∈ l.take k, decide (y = u) = false) (fun k => [(3, .pointer (some ⟨b0, 0, none⟩)), (4, .pointer (some ⟨b, 0, none⟩)), (5, .bool false), (6, hx), (7, .int .i64 (k : Int))]) (fun _ => [boxHP b 100 (Value.agg #[.int .i64 0, .int .i64 0]).cells.toList, boxHP b0 100 (Value.agg #[.int .i64 u, .int .i64 v]).cells.toList]) (fun k => l.length - k) 0 [0, 0] ⟨by omega, by simp⟩ rfl ⟨rfl, rfl, rfl, rfl, rfl, trivial⟩ ?_
  rintro i ⟨hk, hq⟩
  by_cases hlt : i < l.length
  · obtain ⟨c, hc⟩ : ∃ c, l[i]? = some c := ⟨_, List.getElem?_eq_getElem hlt⟩
    have h1 : (iV l)[i * 1]? = some (.int .i64 c) := by simp [iV, hc]
    repeat' first
      | refine k_then ?_ | refine c_seq ?_ | refine c_region ?_ | refine s_nil ?_ | refine s_move (by exact rfl) (by exact rfl) ?_ | refine s_lss (by exact rfl) (by exact rfl) (by exact rfl) ?_ | refine s_len (by exact rfl) (by exact rfl) (by assumption) ?_ | refine c_block ?_ | refine c_skip ?_ | (refine c_cond_p (by exact rfl) (fun h => ?_) (fun h => ?_) <;> try (exfalso; omega))
    refine p_begin0 [(0, true), (1, true), (2, true), (3, true), (4, true), (5, true), (6, true)] (by kernel_rfl) ?_
    repeat' first
      | refine p_nil ?_
      | (refine p_at (by exact rfl) ?_
         first
          | refine t_move (by exact rfl) (by exact rfl) (by exact fun _ h => h) ?_ | refine t_fa (by exact rfl) (by exact rfl) (by exact fun _ h => h) ?_ | refine t_ld_box (by exact rfl) (by exact rfl) (by exact .tail _ (.head _)) (by exact rfl) (by exact fun _ h => h) ?_ | refine t_eql (by exact rfl) (by exact rfl) (by exact rfl) (by exact fun _ h => h) ?_ | refine t_idx (by exact rfl) (by exact rfl) (by exact rfl) (by assumption) (by first | assumption | omega) (by exact fun _ h => h) ?_ | refine t_ld_ro (by exact rfl) (by exact rfl) (by assumption) (by assumption) (by exact fun _ h => h) ?_)
    by_cases hcu : c = u
    · have hf : l.findIdx? (fun y => decide (y = u)) = some i := by
        rw [List.findIdx?_eq_some_iff_getElem]
        obtain ⟨h1, h2⟩ := List.getElem?_eq_some_iff.1 hc
        refine ⟨h1, by rw [h2]; exact decide_eq_true hcu, fun j hj => ?_⟩
        rw [hq _ (List.mem_take_iff_getElem.2 ⟨j, by omega, rfl⟩)]
        simp
      rw [hf]
      dsimp only
      repeat' first
        | refine k_then ?_ | refine c_seq ?_ | (refine c_cond_p (by exact rfl) (fun h => ?_) (fun h => ?_) <;> try (exfalso; omega))
      refine p_begin [(0, true), (1, true), (2, true), (3, true), (4, true), (5, true), (6, true), (7, true), (8, true), (9, true), (10, true), (11, false), (12, true)] [boxHP b0 100 (Value.agg #[.int .i64 u, .int .i64 v]).cells.toList] (by kernel_rfl) ?_
      repeat' first
        | (refine p_at (by exact rfl) ?_
           first
            | refine t_move (by exact rfl) (by exact rfl) (by exact fun _ h => h.tl) ?_ | refine t_fa (by exact rfl) (by exact rfl) (by exact fun _ h => h.tl) ?_ | refine t_ld_box (by exact rfl) (by exact rfl) (by exact .head _) (by exact rfl) (by exact fun _ h => h.tl) ?_ | refine t_add (by exact rfl) (by exact rfl) (by exact rfl) (by omega) (by exact fun _ h => h.tl) ?_ | refine t_rem (by exact rfl) (by exact rfl) (by exact rfl) (by omega) (by exact fun _ h => h.tl) ?_ | refine t_len (by exact rfl) (by exact rfl) (by assumption) (by exact fun _ h => h.tl) ?_)
      have hmod : ((i : Int) + 1) % (l.length : Int) = (((i + 1) % l.length : Nat) : Int) := by simp
      have hml : (i + 1) % l.length < l.length := Nat.mod_lt _ (by omega)
      rw [hmod]
      generalize hj : (i + 1) % l.length = j at *
      have h2' := iV_get hml
      repeat' first
        | (refine p_at (by exact rfl) ?_
           first
            | refine t_idx (by exact rfl) (by exact rfl) (by exact rfl) (by assumption) (by first | assumption | omega) (by exact fun _ h => h.tl) ?_ | refine t_ld_ro (by exact rfl) (by exact rfl) (by assumption) (by assumption) (by exact fun _ h => h.tl) ?_)
      refine p_buildt (cs := [.int .i64 v, .int .i64 (l.getD j 0)]) [(0, .int .i64 v, [.int .i64 v]), (1, .int .i64 (l.getD j 0), [.int .i64 (l.getD j 0)])] (by exact rfl) (by exact rfl) (by exact rfl) (by simp [Value.cells]) ?_ (by exact fun _ h => h.tl) ?_
      · exact rfl
      refine p_stk_box (j := 0) (us := [.int .i64 v, .int .i64 (l.getD j 0)]) (by exact rfl) (by exact rfl) (by exact rfl) (by exact rfl) (by exact rfl) (by exact rfl) (by simp [Value.oneCell']) (by simp [Value.cells]) (fun _ h => h.pick [1] (by exact rfl)) ?_
      repeat' first
        | refine p_nil ?_
        | (refine p_at (by exact rfl) ?_
           first
            | refine t_assign (by exact rfl) (by exact rfl) (by exact fun _ h => h.tl) ?_)
      repeat' first
        | refine k_then ?_ | refine c_ret ?_ | refine k_then_ret ?_ | refine k_blk_ret ?_
      refine retL [.cell 4 100, .tmp 5] [.agg #[.int .i64 v, .int .i64 (l.getD j 0)], .bool true] [] rfl ⟨res_cellk (cs := [.int .i64 v, .int .i64 (l.getD j 0)]) (k := 2) (off := 0) (us := [.int .i64 v, .int .i64 (l.getD j 0)]) rfl (.head _) rfl (by simp [Value.cells]), res_tmp rfl, trivial⟩ (by exact rfl) ⟨?_, rfl⟩
      rfl
    · repeat' first
        | refine k_then ?_ | refine c_region ?_ | refine s_nil ?_ | refine s_move (by exact rfl) (by exact rfl) ?_ | refine s_assign (by exact rfl) (by exact rfl) ?_ | refine s_add (by exact rfl) (by exact rfl) (by exact rfl) (by omega) ?_ | refine c_skip ?_ | refine k_blk ?_ | (refine c_cond_p (by exact rfl) (fun h => ?_) (fun h => ?_) <;> try (exfalso; omega))
      refine c_round (i + 1) [0, 0] (by exact rfl) (by exact ⟨rfl, rfl, rfl, rfl, rfl, trivial⟩) ⟨by omega, ?_⟩ (by omega)
      rw [List.take_add_one, hc]
      intro y hy
      rcases List.mem_append.1 hy with hy | hy
      · exact hq y hy
      · obtain rfl : y = c := by simpa using hy
        exact decide_eq_false hcu
  · rw [List.take_of_length_le (by omega)] at hq
    rw [List.findIdx?_eq_none_iff.2 hq]
    dsimp only
    repeat' first
      | refine k_then ?_ | refine c_seq ?_ | refine c_region ?_ | refine s_nil ?_ | refine s_move (by exact rfl) (by exact rfl) ?_ | refine s_lss (by exact rfl) (by exact rfl) (by exact rfl) ?_ | refine s_len (by exact rfl) (by exact rfl) (by assumption) ?_ | refine c_exit ?_ | refine k_then_exit ?_ | refine k_blk_eq ?_ | (refine c_cond_p (by exact rfl) (fun h => ?_) (fun h => ?_) <;> try (exfalso; omega))
    refine o_build (cs := [.int .i64 0, .int .i64 0]) [] (by exact rfl) (by exact rfl) (by simp) (by exact rfl) ?_
    skip
    refine o_stk_box (i := 0) (us := [.int .i64 0, .int .i64 0]) (by exact rfl) (by exact rfl) (by exact rfl) (by exact rfl) (by exact rfl) (by simp [Value.oneCell']) (by simp [Value.cells]) ?_
    repeat' first
      | refine k_then ?_ | refine s_nil ?_ | refine s_assign (by exact rfl) (by exact rfl) ?_ | refine c_ret ?_
    refine retL [.cell 4 100, .tmp 5] [.agg #[.int .i64 0, .int .i64 0], .bool false] [] rfl ⟨res_cellk (cs := [.int .i64 0, .int .i64 0]) (k := 2) (off := 0) (us := [.int .i64 0, .int .i64 0]) rfl (.head _) rfl rfl, res_tmp rfl, trivial⟩ (by exact rfl) ⟨?_, rfl⟩
    rfl
end Go.Proofs.YtpajjnkmaebhcabGreat
end
section
set_option linter.unusedVariables false
namespace Fil
open Go.Sl
theorem nextK_nxt {R : List (List Nat)} {d : Nat × Nat} (h1 : d.2 < R.length) (h2 : d.1 ∈ rf R d.2) : nextK (intL R) (d.1 : Int) (d.2 : Int) = (((nxt (rf R) d).1 : Int), ((nxt (rf R) d).2 : Int), true) := by
  have hl : (intL R).length = R.length := by simp [intL]
  have hg : (intL R).getD d.2 [] = (rf R d.2).map fun (k : Nat) => (k : Int) := by
    rw [List.getD_eq_getElem?_getD, intL, List.getElem?_map, rf, List.getD_eq_getElem?_getD, List.getElem?_eq_getElem h1]; rfl
  rw [nextK, if_neg (by rw [hl]; omega), show (d.2 : Int).toNat = d.2 by omega, hg]
  have hi : (rf R d.2).idxOf d.1 < (rf R d.2).length := List.idxOf_lt_length_of_mem h2
  have hf : ((rf R d.2).map fun (k : Nat) => (k : Int)).findIdx? (fun y => decide (y = (d.1 : Int))) = some ((rf R d.2).idxOf d.1) := by
    rw [List.findIdx?_eq_some_iff_getElem]
    refine ⟨by simpa using hi, ?_, fun j hj => ?_⟩
    · rw [List.getElem_map, List.getElem_idxOf]; simp
    · rw [List.getElem_map]
      have h3 : (rf R d.2)[j]'(by omega) ≠ d.1 := by
        have := List.not_of_lt_findIdx hj
        simpa [List.idxOf] using this
      simp only [decide_eq_true_eq]
      omega
  rw [hf]
  have hm : ((rf R d.2).idxOf d.1 + 1) % (rf R d.2).length < (rf R d.2).length := Nat.mod_lt _ (by omega)
  simp only [List.length_map]
  rw [List.getD_eq_getElem?_getD, List.getElem?_map, List.getElem?_eq_getElem hm, nxt, cyc, List.getD_eq_getElem?_getD, List.getElem?_eq_getElem hm]
  rfl
theorem rf_mirror (R : List (List Nat)) (v : Nat) : rf (R.map List.reverse) v = (rf R v).reverse := by
  rw [rf, rf, List.getD_eq_getElem?_getD, List.getD_eq_getElem?_getD, List.getElem?_map]
  cases R[v]? <;> rfl
theorem RotL.rev {N : Nat} {l : List (Nat × Nat)} {R : List (List Nat)} (h : RotL N l R) : RotL N l (R.map List.reverse) :=
  ⟨by simpa using h.len, fun v hv => by rw [rf_mirror]; exact (List.reverse_perm _).trans (h.perm v hv)⟩
theorem edge_of {n : Int} {es : List E} {R : List (List Nat)} {o lab : Nat → Nat} (hR : RightG n es) (h : RotL n.toNat (tn es) R) (hL : Lev n.toNat (nb (tn es)) o lab) {c : List Nat} (hc : c ∈ compsS n.toNat lab) (h1 : c.length ≠ 1) : (tn es).filter (fun e => decide (e.1 ∈ c)) ≠ [] := by
  obtain ⟨c', hp, hg⟩ := comp_grow hR h hL hc
  have hl : c.length ≠ 0 := fun e => comp_ne hc (List.eq_nil_of_length_eq_zero e)
  have hne := grow_ne (h.sys hR) hg (by have := hp.length_eq; omega)
  obtain ⟨v, hv⟩ := List.exists_mem_of_ne_nil _ (comp_ne hc)
  obtain ⟨u, hu⟩ := List.exists_mem_of_ne_nil _ (hne v (hp.mem_iff.2 hv))
  have huc := comp_shut hR h hL hc v hv u hu
  rcases ((h.sys hR).ed u v).1 hu with he | he
  · exact List.ne_nil_of_mem (List.mem_filter.2 ⟨he, decide_eq_true hv⟩)
  · exact List.ne_nil_of_mem (List.mem_filter.2 ⟨he, decide_eq_true huc⟩)
end Fil
end
section
set_option linter.unusedVariables false
namespace Fil
theorem map_set {α : Type} {cs : List α} {f g : α → Int} {i : Nat} {c : α} (hc : cs[i]? = some c) (h : ∀ (j : Nat) x, cs[j]? = some x → j ≠ i → g x = f x) : (cs.map f).set i (g c) = cs.map g := by
  have hi := (List.getElem?_eq_some_iff.1 hc).1
  apply List.ext_getElem?
  intro j
  rw [List.getElem?_set]
  by_cases e : i = j
  · subst e
    rw [if_pos rfl, if_pos (by simpa using hi), List.getElem?_map, hc]; rfl
  · rw [if_neg e, List.getElem?_map, List.getElem?_map]
    cases hx : cs[j]? with
    | none => rfl
    | some x => simp only [Option.map_some]; rw [h j x hx fun e' => e e'.symm]
theorem comp_one {N : Nat} {A : Nat → List Nat} {o lab : Nat → Nat} (hL : Lev N A o lab) {v : Nat} (hv : v < N) : ∃ a c, (compsS N lab)[a]? = some c ∧ v ∈ c ∧ ∀ (b : Nat) x, (compsS N lab)[b]? = some x → (v ∈ x ↔ b = a) := by
  have h1 := hL.le v hv
  have h2 := hL.idem v hv
  have hc : (List.range N).filter (fun u => lab u == lab v) ∈ compsS N lab := by
    simp only [compsS, compsI, List.mem_map, List.mem_filter, List.mem_range]
    exact ⟨lab v, ⟨by omega, by simpa using h2⟩, rfl⟩
  obtain ⟨a, ha⟩ := List.getElem?_of_mem hc
  refine ⟨a, _, ha, List.mem_filter.2 ⟨List.mem_range.2 hv, by simp⟩, fun b x hb => ⟨fun hx => ?_, fun e => ?_⟩⟩
  · rw [compsS, compsI, List.getElem?_map, Option.map_eq_some_iff] at ha hb
    obtain ⟨r, hr, hr2⟩ := ha
    obtain ⟨s, hs, hs2⟩ := hb
    subst hs2
    have e1 : lab v = s := by have := (List.mem_filter.1 hx).2; simpa using this
    have hvr : v ∈ (List.range N).filter (fun u => lab u == r) := by rw [hr2]; exact List.mem_filter.2 ⟨List.mem_range.2 hv, by simp⟩
    have e2 : lab v = r := by have := (List.mem_filter.1 hvr).2; simpa using this
    have hnd : ((List.range N).filter fun v => lab v == v).Nodup := List.nodup_range.sublist List.filter_sublist
    have l1 := (List.getElem?_eq_some_iff.1 hs)
    have l2 := (List.getElem?_eq_some_iff.1 hr)
    obtain ⟨l1, l3⟩ := l1
    obtain ⟨l2, l4⟩ := l2
    have h3 := congrArg ((List.range N).filter fun v => lab v == v).idxOf (show ((List.range N).filter fun v => lab v == v)[b] = ((List.range N).filter fun v => lab v == v)[a] by rw [l3, l4, ← e1, ← e2])
    rwa [hnd.idxOf_getElem, hnd.idxOf_getElem] at h3
  · subst e
    rw [ha] at hb
    obtain rfl := Option.some.inj hb
    exact List.mem_filter.2 ⟨List.mem_range.2 hv, by simp⟩
theorem fcount {α : Type} {l : List α} {k : Nat} {e : α} (p : α → Bool) (h : l[k]? = some e) : ((l.take (k + 1)).filter p).length = ((l.take k).filter p).length + if p e then 1 else 0 := by
  rw [List.take_add_one, h, List.filter_append, List.length_append, Option.toList_some, List.filter_cons]
  split <;> rfl
def baseK (c : List Nat) : Int := if c.length = 1 then 2 else (c.length : Int)
/-- behind k edges -/
def eulE (l : List (Nat × Nat)) (k : Nat) (c : List Nat) : Int := baseK c - (((l.take k).filter fun e => decide (e.1 ∈ c)).length : Int)
/-- behind all edges and k faces -/
def eulF (l : List (Nat × Nat)) (F : List (List (Nat × Nat))) (k : Nat) (c : List Nat) : Int := eulE l l.length c + (((F.take k).filter fun f => decide ((f.headD (0, 0)).1 ∈ c)).length : Int)
theorem eulE_zero (l : List (Nat × Nat)) : eulE l 0 = baseK := by funext c; simp [eulE]
theorem eulF_zero (l : List (Nat × Nat)) (F : List (List (Nat × Nat))) : eulF l F 0 = eulE l l.length := by funext c; simp [eulF]
theorem eulF_all (l : List (Nat × Nat)) (F : List (List (Nat × Nat))) : eulF l F F.length = eulerK l F := by
  funext c
  rw [eulF, eulE, baseK, eulerK, List.take_length, List.take_length]
theorem eulE_step {cs : List (List Nat)} {l : List (Nat × Nat)} {k a : Nat} {e : Nat × Nat} {c : List Nat} (he : l[k]? = some e) (hc : cs[a]? = some c) (hm : ∀ (b : Nat) x, cs[b]? = some x → (e.1 ∈ x ↔ b = a)) : (cs.map (eulE l k)).set a (eulE l k c - 1) = cs.map (eulE l (k + 1)) := by
  have h1 : ∀ x, eulE l (k + 1) x = eulE l k x - if e.1 ∈ x then 1 else 0 := fun x => by
    have := fcount (fun e => decide (e.1 ∈ x)) he
    rw [eulE, eulE, this]
    by_cases h : e.1 ∈ x
    · rw [if_pos (decide_eq_true h), if_pos h]; omega
    · rw [if_neg (by simpa using h), if_neg h]; omega
  rw [← map_set (f := eulE l k) (g := eulE l (k + 1)) hc fun j x hj hne => by rw [h1, if_neg fun h => hne ((hm j x hj).1 h)]; omega]
  rw [h1, if_pos ((hm a c hc).2 rfl)]
theorem eulF_step {cs : List (List Nat)} {l : List (Nat × Nat)} {F : List (List (Nat × Nat))} {k a : Nat} {f : List (Nat × Nat)} {c : List Nat} (he : F[k]? = some f) (hc : cs[a]? = some c) (hm : ∀ (b : Nat) x, cs[b]? = some x → ((f.headD (0, 0)).1 ∈ x ↔ b = a)) : (cs.map (eulF l F k)).set a (eulF l F k c + 1) = cs.map (eulF l F (k + 1)) := by
  have h1 : ∀ x, eulF l F (k + 1) x = eulF l F k x + if (f.headD (0, 0)).1 ∈ x then 1 else 0 := fun x => by
    have := fcount (fun f => decide ((f.headD (0, 0)).1 ∈ x)) he
    rw [eulF, eulF, this]
    by_cases h : (f.headD (0, 0)).1 ∈ x
    · rw [if_pos (decide_eq_true h), if_pos h]; omega
    · rw [if_neg (by simpa using h), if_neg h]; omega
  rw [← map_set (f := eulF l F k) (g := eulF l F (k + 1)) hc fun j x hj hne => by rw [h1, if_neg fun h => hne ((hm j x hj).1 h)]; omega]
  rw [h1, if_pos ((hm a c hc).2 rfl)]
theorem eulE_bound (l : List (Nat × Nat)) (k : Nat) (c : List Nat) : -(l.length : Int) ≤ eulE l k c ∧ eulE l k c ≤ c.length + 2 := by
  have h1 := List.length_filter_le (fun e : Nat × Nat => decide (e.1 ∈ c)) (l.take k)
  rw [List.length_take] at h1
  rw [eulE, baseK]
  split <;> omega
theorem eulF_bound (l : List (Nat × Nat)) (F : List (List (Nat × Nat))) (k : Nat) (c : List Nat) : -(l.length : Int) ≤ eulF l F k c ∧ eulF l F k c ≤ c.length + 2 + F.length := by
  have h1 := List.length_filter_le (fun f : List (Nat × Nat) => decide ((f.headD (0, 0)).1 ∈ c)) (F.take k)
  rw [List.length_take] at h1
  have h2 := eulE_bound l l.length c
  rw [eulF]
  omega
/-- the numbers of the first components -/
def baseL (cs : List (List Nat)) (i : Nat) : List Int := (cs.take i).map baseK ++ List.replicate (cs.length - i) 0
theorem baseL_length {cs : List (List Nat)} {i : Nat} (h : i ≤ cs.length) : (baseL cs i).length = cs.length := by simp [baseL]; omega
theorem baseL_set {cs : List (List Nat)} {i : Nat} {c : List Nat} (h : cs[i]? = some c) : (baseL cs i).set i (baseK c) = baseL cs (i + 1) := by
  have hi := (List.getElem?_eq_some_iff.1 h).1
  have e1 : cs.length - i = (cs.length - (i + 1)) + 1 := by omega
  rw [baseL, baseL, e1, List.replicate_succ, List.set_append_right _ _ (by simp; omega), List.take_add_one, h]
  simp only [List.length_map, List.length_take, Option.toList_some, List.map_append, List.map_cons, List.map_nil, List.append_assoc]
  rw [show i - min i cs.length = 0 by omega]
  rfl
theorem baseL_zero (cs : List (List Nat)) : baseL cs 0 = List.replicate cs.length 0 := by simp [baseL]
theorem baseL_all (cs : List (List Nat)) : baseL cs cs.length = cs.map baseK := by simp [baseL]
end Fil
end
section
set_option linter.unusedSimpArgs false
set_option linter.unusedVariables false
namespace Go.Sl
open Go Go.Proofs Go.RowKit Go.Maps
/-- a key of two integers -/
theorem keyOf_two {P : Program} {k e : TypeId} {f g : Field} (hk : P.underlying k = some (.struct #[f, g])) (he : P.underlying e = some (.int .i64)) (hf : f.type = e ∧ f.offset = 0 ∧ f.name ≠ "_") (hg : g.type = e ∧ g.offset = 1 ∧ g.name ≠ "_") (hc : P.cellsOf k = 2) (hce : P.cellsOf e = 1) (hkt : P.keyType k = true) (hsz : ∃ m, P.types.size = m + 1) {a b : Int} (wa : (Lit.int .i64 a).wf = true) (wb : (Lit.int .i64 b).wf = true) :
    keyOf P k (.agg #[.int .i64 a, .int .i64 b]) = some (.string (keyBytes [.int .i64 a, .int .i64 b])) := by
  obtain ⟨m, hm⟩ := hsz
  obtain ⟨f1, f2, f3⟩ := hf
  obtain ⟨g1, g2, g3⟩ := hg
  unfold keyOf
  simp only [hk]
  rw [if_pos (by simp [hkt, Value.formed, hk, hc]), hm]
  unfold Program.keyLits
  simp only [hk, Value.cells]
  rw [if_pos ⟨by rw [hc]; rfl, by simp [f3, g3]⟩]
  simp [f1, f2, g1, g2, hce, Program.keyLits, he, wa, wb]
end Go.Sl
namespace Go.Proofs
open Go Go.RowKit Go.Maps Go.Sl
abbrev okD (d : Nat × Nat) : Prop := d.1 ≤ 9223372036854775807 ∧ d.2 ≤ 9223372036854775807
abbrev ekD (d : Nat × Nat) : Value := .agg #[.int .i64 (d.1 : Int), .int .i64 (d.2 : Int)]
theorem dart_laid : laidOutB Tryz.prog = true := by kernel_rfl
theorem dart_law : WideMaps.KeyLaw Tryz.prog 100 := deep_law_laid dart_laid (m := 3) (by omega) (of_decide_eq_true (by kernel_rfl)) (by kernel_rfl) (by kernel_rfl)
theorem dart_key (d : Nat × Nat) (h : okD d) : ∃ l, keyOf Tryz.prog 100 (ekD d) = some l :=
  ⟨_, keyOf_two (e := 3) Tryz.underlying100 Tryz.underlying3 ⟨rfl, rfl, by decide⟩ ⟨rfl, rfl, by decide⟩ (by kernel_rfl) (by kernel_rfl) (by kernel_rfl) ⟨_, rfl⟩ (wf_i64 ⟨by omega, by have := h.1; omega⟩) (wf_i64 ⟨by omega, by have := h.2; omega⟩)⟩
theorem ekD_inj (a b : Nat × Nat) (h : ekD a = ekD b) : a = b := by
  simp only [ekD, Value.agg.injEq, Array.mk.injEq, List.cons.injEq, Value.int.injEq] at h
  exact Prod.ext (by omega) (by omega)
instance : MapTy Tryz.prog 163 (Nat × Nat) (Nat × Nat) ekD ekD okD (0, 0) 100 where
  e := ⟨100, Tryz.underlying163, fun w => Tryz.zeroValue100 w⟩
  keyed := Keyed.of_law dart_law
  key := dart_key
  inj := ekD_inj
instance : MapTy Tryz.prog 167 (Nat × Nat) Bool ekD Value.bool okD false 100 where
  e := ⟨4, Tryz.underlying167, fun w => Tryz.zeroValue4 w⟩
  keyed := Keyed.of_law dart_law
  key := dart_key
  inj := ekD_inj
end Go.Proofs
end
section
set_option linter.unusedVariables false
namespace Fil
/-- the entries of vertex v -/
def beh (R : List (List Nat)) (v : Nat) : List ((Nat × Nat) × (Nat × Nat)) := (List.range (rf R v).length).map fun i => (((rf R v).getD i 0, v), (v, (rf R v).getD ((i + 1) % (rf R v).length) 0))
def behL (R : List (List Nat)) (k : Nat) : List ((Nat × Nat) × (Nat × Nat)) := (List.range k).flatMap (beh R)
theorem behL_succ (R : List (List Nat)) (k : Nat) : behL R (k + 1) = behL R k ++ beh R k := by simp [behL, List.range_succ]
theorem beh_length (R : List (List Nat)) (v : Nat) : (beh R v).length = (rf R v).length := by simp [beh]
theorem beh_get {R : List (List Nat)} {v i : Nat} (hi : i < (rf R v).length) : (beh R v)[i]? = some (((rf R v).getD i 0, v), (v, (rf R v).getD ((i + 1) % (rf R v).length) 0)) := by rw [beh, List.getElem?_map, List.getElem?_range hi]; rfl
theorem beh_take {R : List (List Nat)} {v i : Nat} (hi : i < (rf R v).length) : (beh R v).take (i + 1) = (beh R v).take i ++ [(((rf R v).getD i 0, v), (v, (rf R v).getD ((i + 1) % (rf R v).length) 0))] := by
  rw [List.take_add_one, beh_get hi]; rfl
theorem beh_new {R : List (List Nat)} {v i : Nat} (hn : (rf R v).Nodup) (hi : i < (rf R v).length) : ((rf R v).getD i 0, v) ∉ (behL R v ++ (beh R v).take i).map Prod.fst := by
  intro h
  rw [List.map_append, List.mem_append] at h
  rcases h with h | h
  · obtain ⟨p, hp, e⟩ := List.mem_map.1 h
    obtain ⟨u, hu, hp⟩ := List.mem_flatMap.1 hp
    obtain ⟨j, hj, rfl⟩ := List.mem_map.1 hp
    have hu := List.mem_range.1 hu
    simp only [Prod.mk.injEq] at e
    omega
  · obtain ⟨p, hp, e⟩ := List.mem_map.1 h
    obtain ⟨j, hj, hp⟩ := List.mem_take_iff_getElem.1 hp
    have hjl : j < (rf R v).length := by rw [beh_length] at hj; omega
    have h1 := beh_get hjl
    rw [List.getElem?_eq_getElem (by rw [beh_length]; omega), hp, Option.some.injEq] at h1
    rw [h1] at e
    simp only [Prod.mk.injEq, and_true] at e
    rw [List.getD_eq_getElem?_getD, List.getD_eq_getElem?_getD, List.getElem?_eq_getElem hjl, List.getElem?_eq_getElem hi] at e
    simp only [Option.getD_some] at e
    have h2 := congrArg (rf R v).idxOf e
    rw [hn.idxOf_getElem, hn.idxOf_getElem] at h2
    have : j < i := by rw [beh_length] at hj; omega
    omega
theorem behL_nodup {R : List (List Nat)} (hn : ∀ v, (rf R v).Nodup) : ∀ k, ((behL R k).map Prod.fst).Nodup
  | 0 => by simp [behL]
  | k + 1 => by
    have key : ∀ i, i ≤ (rf R k).length → ((behL R k ++ (beh R k).take i).map Prod.fst).Nodup := by
      intro i
      induction i with
      | zero => intro _; simpa using behL_nodup hn k
      | succ i ih =>
        intro hi
        have h1 := ih (by omega)
        have h2 := beh_new (hn k) (show i < (rf R k).length by omega)
        rw [beh_take (by omega), ← List.append_assoc, List.map_append, List.nodup_append]
        refine ⟨h1, by simp, fun a ha b hb e => ?_⟩
        obtain rfl : b = ((rf R k).getD i 0, k) := by simpa using hb
        exact h2 (e ▸ ha)
    have h := key _ (Nat.le_refl _)
    rwa [List.take_of_length_le (by rw [beh_length]; exact Nat.le_refl _), ← behL_succ] at h
theorem beh_look {R : List (List Nat)} (hn : ∀ v, (rf R v).Nodup) {k : Nat} {d : Nat × Nat} (hk : d.2 < k) (hd : d.1 ∈ rf R d.2) : (d, nxt (rf R) d) ∈ behL R k := by
  obtain ⟨i, hi, e⟩ := List.getElem_of_mem hd
  refine List.mem_flatMap.2 ⟨d.2, List.mem_range.2 hk, List.mem_map.2 ⟨i, List.mem_range.2 hi, ?_⟩⟩
  have e1 : (rf R d.2).getD i 0 = d.1 := by rw [List.getD_eq_getElem?_getD, List.getElem?_eq_getElem hi, Option.getD_some, e]
  have e2 : cyc (rf R d.2) d.1 = (rf R d.2).getD ((i + 1) % (rf R d.2).length) 0 := by rw [cyc, ← e, (hn d.2).idxOf_getElem]
  rw [e1, nxt, e2]
end Fil
namespace Go.Proofs.YtpajjnkmaebhcabGreat
open Go.RowKit Go.Sl Fil
set_option maxRecDepth 100000
set_option maxHeartbeats 8000000
set_option linter.unusedVariables false
set_option linter.unusedSimpArgs false
attribute [local irreducible] Code.wp wpList bodyPost wpQuiet Exit.then Exit.inBlock Post wpAnyH wpOp
theorem behind_ok (vr : Value) (hr0 : List Value) (R : List (List Nat)) (w : World) (hR : ROs w No vr hr0 R) (hn : ∀ v, (rf R v).Nodup) (hlt : ∀ v, ∀ u ∈ rf R v, u ≤ 1048576) (hN : R.length ≤ 1048576) (hl : ∀ v, (rf R v).length ≤ 1048576) :
    Calls Tryz.prog 118 #[vr] w (Post w No fun r L' => L' = [mapHP ekD ekD okD r (behL R R.length)]) := by
  have hsr := hR.shp
  have hrr := hR.ro
  refine enter0 (vs := [_]) Tryz.func118 rfl Tryz.ntmps118 rfl ?_
  repeat' first
    | refine k_then ?_ | refine c_seq ?_ | refine c_region ?_ | refine s_nil ?_ | refine s_assign (by exact rfl) (by exact rfl) ?_
  refine o_makeMap (by exact rfl) fun b => ?_
  repeat' first
    | refine k_then ?_ | refine c_seq ?_ | refine c_region ?_ | refine s_nil ?_ | refine s_move (by exact rfl) (by exact rfl) ?_ | refine s_assign (by exact rfl) (by exact rfl) ?_ | refine s_len (by exact rfl) (by exact rfl) (by assumption) ?_ | refine c_block ?_
  refine c_loop (fun k : Nat => k ≤ R.length) (fun k => [(3, .map (some b)), (9, vr), (10, .int .i64 (R.length : Int)), (11, .int .i64 (k : Int))]) (fun k => [mapHP ekD ekD okD (.map (some b)) (behL R k)]) (fun k => R.length - k) 0 [0] (Nat.zero_le _) rfl ⟨rfl, rfl, rfl, rfl, trivial⟩ ?_
  rintro k hk
  by_cases hlt1 : k < R.length
  · obtain ⟨hx, hhx⟩ : ∃ x, hr0[k]? = some x := ⟨_, List.getElem?_eq_getElem (by have := hR.len; omega)⟩
    obtain ⟨l, hl1⟩ : ∃ l, R[k]? = some l := ⟨_, List.getElem?_eq_getElem hlt1⟩
    obtain ⟨hsx, hrx⟩ := hR.kid k hx l hhx hl1
    have hgd : rf R k = l := by rw [rf, List.getD_eq_getElem?_getD, hl1]; rfl
    have h1' : hr0[k * 1]? = some hx := by rw [Nat.mul_one]; exact hhx
    have hll := hl k
    rw [hgd] at hll
    repeat' first
      | refine k_then ?_ | refine c_seq ?_ | refine c_region ?_ | refine s_nil ?_ | refine s_move (by exact rfl) (by exact rfl) ?_ | refine s_assign (by exact rfl) (by exact rfl) ?_ | refine s_lss (by exact rfl) (by exact rfl) (by exact rfl) ?_ | refine s_len (by exact rfl) (by exact rfl) (by assumption) ?_ | refine s_idx (by exact rfl) (by exact rfl) (by exact rfl) (by assumption) (by first | assumption | omega) ?_ | refine s_ld_ro (by exact rfl) (by exact rfl) (by assumption) (by assumption) ?_ | refine c_block ?_ | refine c_skip ?_ | (refine c_cond_p (by exact rfl) (fun h => ?_) (fun h => ?_) <;> try (exfalso; omega))
    refine c_loop (fun i : Nat => i ≤ l.length) (fun i => [(3, .map (some b)), (9, vr), (10, .int .i64 (R.length : Int)), (11, .int .i64 (k : Int)), (4, .int .i64 (k : Int)), (5, hx), (16, hx), (17, .int .i64 (l.length : Int)), (18, .int .i64 (i : Int))]) (fun i => [mapHP ekD ekD okD (.map (some b)) (behL R k ++ (beh R k).take i)]) (fun i => l.length - i) 0 [0] (Nat.zero_le _) (by simp [pick]) ⟨rfl, rfl, rfl, rfl, rfl, rfl, rfl, rfl, rfl, trivial⟩ ?_
    rintro i hi
    by_cases hlt2 : i < l.length
    · have h2' := nV_get hlt2
      have hml : (i + 1) % l.length < l.length := Nat.mod_lt _ (by omega)
      have h3' := nV_get hml
      have hmod : ((i : Int) + 1) % (l.length : Int) = (((i + 1) % l.length : Nat) : Int) := by simp
      repeat' first
        | refine k_then ?_ | refine c_seq ?_ | refine c_region ?_ | refine s_nil ?_ | refine s_move (by exact rfl) (by exact rfl) ?_ | refine s_assign (by exact rfl) (by exact rfl) ?_ | refine s_lss (by exact rfl) (by exact rfl) (by exact rfl) ?_ | refine s_idx (by exact rfl) (by exact rfl) (by exact rfl) (by assumption) (by first | assumption | omega) ?_ | refine s_ld_ro (by exact rfl) (by exact rfl) (by assumption) (by assumption) ?_ | refine c_block ?_ | refine c_skip ?_ | (refine c_cond_p (by exact rfl) (fun h => ?_) (fun h => ?_) <;> try (exfalso; omega))
      have hgi : (rf R k).getD i 0 = l.getD i 0 := by rw [hgd]
      have hu1 : l.getD i 0 ≤ 1048576 := by
        rw [List.getD_eq_getElem?_getD, List.getElem?_eq_getElem hlt2, Option.getD_some]
        exact hlt k _ (by rw [hgd]; exact List.getElem_mem _)
      refine o_build (cs := [.int .i64 (l.getD i 0 : Nat), .int .i64 (k : Int)]) [(0, .int .i64 (l.getD i 0 : Nat), [.int .i64 (l.getD i 0 : Nat)]), (1, .int .i64 (k : Int), [.int .i64 (k : Int)])] (by exact rfl) (by exact rfl) (by simp [Value.cells]) (by exact rfl) ?_
      repeat' first
        | refine s_move (by exact rfl) (by exact rfl) ?_ | refine s_add (by exact rfl) (by exact rfl) (by exact rfl) (by omega) ?_ | refine s_rem (by exact rfl) (by exact rfl) (by exact rfl) (by omega) ?_ | refine s_len (by exact rfl) (by exact rfl) (by assumption) ?_ | refine s_idx (by exact rfl) (by exact rfl) (by exact rfl) (by assumption) (by first | assumption | omega) ?_ | refine s_ld_ro (by exact rfl) (by exact rfl) (by assumption) (by assumption) ?_
      rw [hmod]
      skip
      refine o_build (cs := [.int .i64 (k : Int), .int .i64 (l.getD ((i + 1) % l.length) 0 : Nat)]) [(0, .int .i64 (k : Int), [.int .i64 (k : Int)]), (1, .int .i64 (l.getD ((i + 1) % l.length) 0 : Nat), [.int .i64 (l.getD ((i + 1) % l.length) 0 : Nat)])] (by exact rfl) (by exact rfl) (by simp [Value.cells]) (by exact rfl) ?_
      skip
      refine o_mapup (ek := ekD) (ev := ekD) (ok := okD) (i := 0) (l.getD i 0, k) (k, l.getD ((i + 1) % l.length) 0) (by exact rfl) (by exact rfl) (by exact rfl) (by exact rfl) rfl rfl ⟨by dsimp only; omega, by dsimp only; omega⟩ ?_
      have hput : putK (behL R k ++ (beh R k).take i) (l.getD i 0, k) (k, l.getD ((i + 1) % l.length) 0) = behL R k ++ (beh R k).take (i + 1) := by
        have h1 := beh_new (hn k) (by rw [hgd]; exact hlt2)
        have h2 := beh_take (R := R) (v := k) (i := i) (by rw [hgd]; exact hlt2)
        rw [hgd] at h1 h2
        rw [putK_new h1, h2, List.append_assoc]
      rw [hput]
      repeat' first
        | refine k_then ?_ | refine c_region ?_ | refine s_nil ?_ | refine s_move (by exact rfl) (by exact rfl) ?_ | refine s_add (by exact rfl) (by exact rfl) (by exact rfl) (by omega) ?_ | refine k_blk ?_
      refine c_round (i + 1) [0] (by exact rfl) (by exact ⟨rfl, rfl, rfl, rfl, rfl, rfl, rfl, rfl, rfl, trivial⟩) (by omega) (by omega)
    · repeat' first
        | refine k_then ?_ | refine c_seq ?_ | refine c_region ?_ | refine s_nil ?_ | refine s_move (by exact rfl) (by exact rfl) ?_ | refine s_lss (by exact rfl) (by exact rfl) (by exact rfl) ?_ | refine s_add (by exact rfl) (by exact rfl) (by exact rfl) (by omega) ?_ | refine c_exit ?_ | refine k_then_exit ?_ | refine k_blk ?_ | refine k_blk_eq ?_ | (refine c_cond_p (by exact rfl) (fun h => ?_) (fun h => ?_) <;> try (exfalso; omega))
      obtain rfl : i = l.length := by omega
      rw [List.take_of_length_le (by rw [beh_length, hgd]; exact Nat.le_refl _), ← behL_succ]
      refine c_round (k + 1) [0] (by exact rfl) (by exact ⟨rfl, rfl, rfl, rfl, trivial⟩) (by omega) (by omega)
  · repeat' first
      | refine k_then ?_ | refine c_seq ?_ | refine c_region ?_ | refine s_nil ?_ | refine s_move (by exact rfl) (by exact rfl) ?_ | refine s_assign (by exact rfl) (by exact rfl) ?_ | refine s_lss (by exact rfl) (by exact rfl) (by exact rfl) ?_ | refine c_exit ?_ | refine c_ret ?_ | refine k_then_exit ?_ | refine k_blk_eq ?_ | (refine c_cond_p (by exact rfl) (fun h => ?_) (fun h => ?_) <;> try (exfalso; omega))
    obtain rfl : k = R.length := by omega
    refine ret1 [0] rfl rfl rfl rfl
end Go.Proofs.YtpajjnkmaebhcabGreat
end
section
set_option linter.unusedVariables false
namespace Fil
def cmpD (a b : Nat × Nat) : Int := if cmpK (a.1 : Int) (b.1 : Int) = 0 then cmpK (a.2 : Int) (b.2 : Int) else cmpK (a.1 : Int) (b.1 : Int)
end Fil
namespace Go.Proofs.YtpajjnkmaebhcabGreat
open Go.RowKit Go.Sl Fil
set_option maxRecDepth 100000
set_option maxHeartbeats 8000000
set_option linter.unusedVariables false
set_option linter.unusedSimpArgs false
attribute [local irreducible] Code.wp wpList bodyPost wpQuiet Exit.then Exit.inBlock Post wpAnyH wpOp
theorem dartOrder_ok (a b : Nat × Nat) (w : World) : Calls Tryz.prog 120 #[ekD a, ekD b] w (Post w No (Just (.int .i64 (cmpD a b)))) := by
  refine enter0 (vs := [_, _]) Tryz.func120 rfl Tryz.ntmps120 rfl ?_
  repeat' first
    | refine k_then ?_ | refine c_seq ?_ | refine c_region ?_ | refine s_nil ?_ | refine s_assign (by exact rfl) (by exact rfl) ?_ | refine o_box (by exact rfl) (by exact rfl) (fun b => ?_)
  refine p_begin0 [(0, true), (1, true), (2, true), (3, true), (5, true), (6, true), (7, true), (8, true), (4, false), (9, false), (10, false), (11, false), (12, true)] (by kernel_rfl) ?_
  repeat' first
    | (refine p_at (by exact rfl) ?_
       first
        | refine t_fa (by exact rfl) (by exact rfl) (by exact fun _ h => h) ?_ | refine t_ld_box (by exact rfl) (by exact rfl) (by first | exact .head _ | exact .tail _ (.head _)) (by exact rfl) (by exact fun _ h => h) ?_)
  refine p_call (gd := none) (by exact rfl) rfl (by exact rfl) (fun w hs => Compare_ok _ _ w) (by exact fun _ h => h) ?_
  refine p_call (gd := none) (by exact rfl) rfl (by exact rfl) (fun w hs => Compare_ok _ _ w) (by exact fun _ h => h) ?_
  refine p_mk [_, _] (by exact rfl) rfl (by exact rfl) rfl ?_ ?_ (by simp) (fun w A h => h.tl) (fun s hs => ?_)
  · simp [Value.cells]
  · simp
  refine p_call (gd := none) (by exact rfl) rfl (by exact rfl) (fun w h => Or_ok s _ _ w (ro_own h (.head _)) hs) (by exact fun _ h => h.tl) ?_
  repeat' first
    | refine p_nil ?_
    | (refine p_at (by exact rfl) ?_
       first
        | refine t_assign (by exact rfl) (by exact rfl) (by exact fun _ h => h.tl) ?_)
  repeat' first
    | refine k_then ?_ | refine c_ret ?_
  refine ret1 [] rfl rfl rfl ⟨?_, rfl⟩
  simp [cmpD]
end Go.Proofs.YtpajjnkmaebhcabGreat
end
