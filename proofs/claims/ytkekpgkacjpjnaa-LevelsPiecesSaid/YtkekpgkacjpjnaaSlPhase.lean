/- Regions that draw their order and come in two phases: what is done in the second waits for all of the first. -/
import Derived.Test.YtkekpgkacjpjnaaSlPlan
set_option linter.unusedVariables false
set_option linter.unusedSimpArgs false
namespace Go.Sl
open Go Go.RowKit
section
variable {P : Program} {w0 : World} {S0 : FS} {n : Nat} {F : List (Nat × Value)} {L Lk : List HP} {ops : Array Oper} {Q : Exit → Act → World → Prop}

/-- whatever order the operations of seg come up in, and behind them K -/
def wpSeg (P : Program) (ops : Array Oper) (Q : Exit → Act → World → Prop) (S : World → Prop) (seg : List Nat) (K : Array Bool → Act → World → Prop) : Nat → Array Bool → Act → World → Prop
  | 0, l, a, w => (∀ j ∈ seg, l.getD j true = true) ∧ K l a w
  | n + 1, l, a, w => Region.ready .any ops l ≠ [] ∧ ∀ i ∈ Region.ready .any ops l, i ∈ seg ∧ wpOp P ops Q i (fun a' w' => S w' ∧ wpSeg P ops Q S seg K n (l.setIfInBounds i true) a' w') a w

theorem wpSeg_any {S : World → Prop} {seg : List Nat} {m : Nat} : ∀ (k : Nat) (l : Array Bool) (a : Act) (w : World), wpSeg P ops Q S seg (wpAny P .any ops Q m) k l a w → wpAny P .any ops Q (m + k) l a w
  | 0, _, _, _, h => h.2
  | k + 1, l, a, w, h => ⟨fun e => absurd e h.1, fun i hi => wpOp_mono (fun a' w' h' => wpSeg_any k _ a' w' h'.2) (h.2 i hi).2⟩

theorem wpSeg_first {S : World → Prop} {seg : List Nat} {K : Array Bool → Act → World → Prop} {i : Nat} {oi : Oper} {v : Value} (hi : ops[i]? = some oi) (hsel : ∀ (j : Nat) (o : Oper) cs b, ops[j]? = some o → o.op ≠ .select cs b)
    (hQ : ∀ c a w, Q (.panic c) (a.put oi.dst v) w → Q (.panic c) a w) (hseg : i ∈ seg) (hdep : ∀ j oj, ops[j]? = some oj → j ∉ seg → ∃ e ∈ oj.after, Region.binds .any e = true ∧ e.on = i) :
    ∀ (k : Nat) (l : Array Bool) (a : Act) (w : World),
      (∀ j oj, ops[j]? = some oj → j ≠ i → l.getD j true = false → (∀ e ∈ oj.after, Region.binds .any e = true → e.on ≠ i) → oi.apart ops oj = true) →
      i ∈ Region.ready .any ops l → YieldsIf P ops S oi v a → S w →
      wpSeg P ops Q S seg K k (l.setIfInBounds i true) (a.put oi.dst v) w → wpSeg P ops Q S seg K (k + 1) l a w := by
  have waits : ∀ (l : Array Bool) (e : Edge), l.getD i true = false → e.on = i → l.getD e.on false = true → False := by
    intro l e h0 heq h1
    rw [heq] at h1
    rcases Nat.lt_or_ge i l.size with h' | h'
    · simp [h'] at h0 h1; rw [h0] at h1; cases h1
    · simp [Array.getElem?_eq_none h'] at h1
  intro k
  induction k with
  | zero =>
    intro l a w _ hr hy hS H
    refine ⟨fun e => (by rw [e] at hr; cases hr), fun j hj => ?_⟩
    by_cases hji : j = i
    · subst hji; exact ⟨hseg, hy.wpOp hi hS ⟨hS, H⟩⟩
    · exfalso
      obtain ⟨hun, oj, hoj, hall⟩ := mem_ready.1 hj
      by_cases hjs : j ∈ seg
      · have := H.1 j hjs
        rw [getD_set_ne true (Ne.symm hji), hun] at this
        cases this
      · obtain ⟨e, he, hb, heq⟩ := hdep j oj hoj hjs
        exact waits l e (mem_ready.1 hr).1 heq (hall e he hb)
  | succ k ih =>
    intro l a w hfree hr hy hS H
    refine ⟨fun e => (by rw [e] at hr; cases hr), fun j hj => ?_⟩
    by_cases hji : j = i
    · subst hji; exact ⟨hseg, hy.wpOp hi hS ⟨hS, H⟩⟩
    · obtain ⟨hjs, h1⟩ := H.2 j (ready_mono hj hji)
      refine ⟨hjs, ?_⟩
      obtain ⟨hun, oj, hoj, hall⟩ := mem_ready.1 hj
      have hnot : ∀ e ∈ oj.after, Region.binds .any e = true → e.on ≠ i := fun e he hb heq => waits l e (mem_ready.1 hr).1 heq (hall e he hb)
      have h2 := wpOp_putIf hoj (hfree j oj hoj hji hun hnot) (fun cs b => hsel i oi cs b hi) (fun cs b => hsel j oj cs b hoj) hQ hy h1
      refine wpOp_mono (fun a' w' h3 => ⟨h3.2.1, ih (l.setIfInBounds j true) a' w' (fun k ok hk hki hu hno => ?_) (ready_mono hr (Ne.symm hji)) h3.1 h3.2.1 ?_⟩) h2
      · refine hfree k ok hk hki ?_ hno
        by_cases hjk : j = k
        · subst hjk; exact hun
        · rw [getD_set_ne true hjk] at hu; exact hu
      · rw [Array.setIfInBounds_comm _ _ hji]
        exact h3.2.2

/-- the end of the first phase: what the second one asks -/
def cutK (P : Program) (ops : Array Oper) (Q : Exit → Act → World → Prop) (plan : List PI) : Exit → Act → World → Prop
  | .normal, a, w => ∃ S : World → Prop, S w ∧ PW P ops Q S plan a w
  | e, a, w => Q e a w
instance {plan : List PI} [T : PO Q] : PO (cutK P ops Q plan) := ⟨fun c a d v w h => T.ok c a d v w h⟩

theorem wpOp_cutK {plan : List PI} {i : Nat} {K : Act → World → Prop} {a : Act} {w : World} (h : wpOp P ops (cutK P ops Q plan) i K a w) : wpOp P ops Q i K a w := by
  unfold wpOp at *
  split
  · rename_i ho
    rw [ho] at h
    exact h
  · rename_i o ho
    rw [ho] at h
    dsimp only at h
    split
    · rename_i hw
      rw [if_pos hw] at h
      refine h.imp (fun h => ?_) (fun h => ⟨h.1, h.2⟩)
      unfold Oper.wp at *
      generalize (execOp a.eval o).run P w = r at *
      unfold Oper.upon at *
      split at h
      all_goals first
        | exact h
        | exact Calls.mono h fun e w'' he => by cases e <;> exact he
    · rename_i hw
      rw [if_neg hw] at h
      exact h

def segOf : List PI → List Nat
  | [] => []
  | .mk i _ :: l => i :: segOf l
  | .rd i j :: l => i :: j :: segOf l
def depsOk (ops : Array Oper) (seg : List Nat) (i : Nat) : Bool :=
  seg.contains i && (List.range ops.size).all fun j => seg.contains j || (match ops[j]? with | some o => o.after.any fun e => Region.binds .any e && e.on == i | none => true)
def planOk1 (ops : Array Oper) (seg : List Nat) (plan2 : List PI) : Array Bool → List PI → Bool
  | listed, [] => seg.all (fun j => listed.getD j true) && planOk ops listed plan2
  | listed, .rd _ _ :: _ => false
  | listed, .mk i t :: rest => (if t then (Region.ready .any ops listed).contains i && Region.free .any ops listed i && depsOk ops seg i else seg.contains i && Region.ready .any ops listed == [i]) && planOk1 ops seg plan2 (listed.setIfInBounds i true) rest

theorem pw_sound1 [T : PO Q] {S : World → Prop} {seg : List Nat} {plan2 : List PI} (hs : Region.noSelect ops = true) : ∀ (plan : List PI) (listed : Array Bool) (a : Act) (w : World), planOk1 ops seg plan2 listed plan = true → PW P ops (cutK P ops Q plan2) S plan a w → wpSeg P ops Q S seg (wpAny P .any ops Q (planLen plan2)) (planLen plan) listed a w
  | [], listed, a, w, hp, h => by
    simp only [planOk1, Bool.and_eq_true, List.all_eq_true] at hp
    obtain ⟨S', hS', h⟩ := h
    exact ⟨hp.1, wpAny_of_held _ _ _ _ (pw_sound hs plan2 _ _ _ hp.2 h)⟩
  | .rd i j :: rest, listed, a, w, hp, h => by simp [planOk1] at hp
  | .mk i true :: rest, listed, a, w, hp, h => by
    obtain ⟨o, v, ho, hy, hS, hr⟩ := h
    simp only [planOk1, if_true, Bool.and_eq_true, depsOk, List.all_eq_true, Bool.or_eq_true] at hp
    obtain ⟨⟨⟨h1, h2⟩, h3, h4⟩, h5⟩ := hp
    refine wpSeg_first ho (Region.noSelect_spec hs) (fun c a w h => T.ok c a _ _ w h) (by simpa using h3) (fun j oj hoj hjs => ?_) (planLen rest) listed a w (Region.free_spec ho h2) (by simpa using h1) hy hS (pw_sound1 hs rest _ _ _ h5 hr)
    have := h4 j (by simpa using (Array.getElem?_eq_some_iff.1 hoj).1)
    rcases this with h | h
    · exact absurd (by simpa using h) hjs
    · rw [hoj] at h
      dsimp only at h
      rw [← Array.any_toList, List.any_eq_true] at h
      obtain ⟨e, h1, h2⟩ := h
      simp only [Bool.and_eq_true, beq_iff_eq] at h2
      exact ⟨e, by simpa using h1, h2.1, h2.2⟩
  | .mk i false :: rest, listed, a, w, hp, h => by
    simp only [planOk1, Bool.and_eq_true, Bool.false_eq_true, if_false] at hp
    have e : Region.ready .any ops listed = [i] := by simpa using hp.1.2
    refine ⟨by rw [e]; simp, fun j hj => ?_⟩
    rw [e] at hj
    obtain rfl : j = i := by simpa using hj
    exact ⟨by simpa using hp.1.1, wpOp_mono (fun a' w' ⟨h1, h2⟩ => ⟨h1, pw_sound1 hs rest _ _ _ hp.2 h2⟩) (wpOp_cutK h)⟩

/-- two plans, one behind the other: Lk holds during the first -/
theorem p_begin2 [T : PO Q] {id : Nat} {l : List Oper} (plan1 plan2 : List PI) (Lk : List HP) (hm : (P.follows .mixedOrders && Region.noSelect l.toArray && planOk1 l.toArray (segOf plan1) plan2 (Array.replicate l.toArray.size false) plan1 && (planLen plan2 + planLen plan1 == l.toArray.size)) = true)
    (h : RP P w0 S0 n l.toArray (cutK P l.toArray Q plan2) Lk plan1 F L) : Reach w0 S0 n F L ((Code.region id l.toArray true).wp P Q) := by
  simp only [Bool.and_eq_true, beq_iff_eq] at hm
  obtain ⟨⟨⟨h1, h2⟩, h3⟩, h4⟩ := hm
  intro a w hf hs
  refine wp_region_any h1 ?_
  have := wpSeg_any _ _ _ _ (pw_sound1 (Q := Q) h2 plan1 _ _ _ h3 (h a _ hf hs.drew))
  rwa [h4] at this
theorem p_cut {plan : List PI} (Lk : List HP) (hL : ∀ w, St w0 S0 L w → St w0 S0 Lk w) (h : RP P w0 S0 n ops Q Lk plan F L) : Reach w0 S0 n F L (cutK P ops Q plan .normal) :=
  fun a w hf hs => ⟨St w0 S0 Lk, hL w hs, h a w hf hs⟩
end
end Go.Sl
