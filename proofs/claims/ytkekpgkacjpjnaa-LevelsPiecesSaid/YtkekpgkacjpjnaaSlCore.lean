/- Separation-style assertions over the model's worlds: what a call owns, entry by entry; frames as knowledge in part; the judgement 'Reach'. -/
import Derived.WalkKit
import Derived.Deep.Quiet
import Derived.OrdersHeld
import Derived.KernelRfl
import Derived.Deep.LoopGhost
set_option linter.unusedVariables false
namespace Go.Sl
open Go Go.RowKit

abbrev FS := Nat → Prop

structure Mod (w : World) (S : FS) (w' : World) (S' : FS) : Prop where
  os : w'.os = w.os
  tape : w'.tape = w.tape
  output : w'.output = w.output
  size : w.heap.size ≤ w'.heap.size
  keep : ∀ k, k < w.heap.size → ¬ S k → w'.heap[k]? = w.heap[k]?
  new : ∀ k, S' k → S k ∨ w.heap.size ≤ k

theorem Mod.refl (w : World) (S : FS) : Mod w S w S := ⟨rfl, rfl, rfl, Nat.le_refl _, fun _ _ _ => rfl, fun _ h => .inl h⟩

theorem Mod.trans {w w1 w2 : World} {S S1 S2 : FS} (h : Mod w S w1 S1) (k : Mod w1 S1 w2 S2) : Mod w S w2 S2 where
  os := k.os.trans h.os
  tape := k.tape.trans h.tape
  output := k.output.trans h.output
  size := Nat.le_trans h.size k.size
  keep i hi hn := by
    rw [k.keep i (Nat.lt_of_lt_of_le hi h.size) (fun h1 => ?_), h.keep i hi hn]
    rcases h.new i h1 with h2 | h2
    · exact hn h2
    · omega
  new i h2 := by
    rcases k.new i h2 with h1 | h1
    · exact h.new i h1
    · exact .inr (Nat.le_trans h.size h1)

theorem Mod.below {w w' : World} {S' : FS} (h : Mod w (fun _ => False) w' S') : Below w.heap.size w w' :=
  ⟨h.os, h.tape, h.output, h.size, fun k hk => h.keep k hk (fun hf => hf)⟩

theorem Mod.of_below {w w' : World} (h : Below w.heap.size w w') (S : FS) : Mod w S w' S :=
  ⟨h.os, h.tape, h.output, h.size, fun k hk _ => h.block k hk, fun _ h => .inl h⟩

structure HP where
  sat : FS → World → Prop
  mono : ∀ {S S' : FS} {w : World}, (∀ k, S k → S' k) → sat S w → sat S' w
  move : ∀ {S : FS} {w w' : World}, (∀ k, S k → k < w.heap.size → w'.heap[k]? = w.heap[k]?) → sat S w → sat S w'
  bound : ∀ {S : FS} {w : World}, sat S w → sat (fun k => S k ∧ k < w.heap.size) w

def sats : List HP → FS → World → Prop
  | [], _, _ => True
  | A :: L, S, w => ∃ S1 S2 : FS, (∀ k, S1 k → S k) ∧ (∀ k, S2 k → S k) ∧ (∀ k, S1 k → ¬ S2 k) ∧ A.sat S1 w ∧ sats L S2 w

theorem sats_mono {w : World} : ∀ {L : List HP} {S S' : FS}, (∀ k, S k → S' k) → sats L S w → sats L S' w
  | [], _, _, _, _ => trivial
  | _ :: _, _, _, h, ⟨S1, S2, h1, h2, hd, ha, hl⟩ => ⟨S1, S2, fun k hk => h k (h1 k hk), fun k hk => h k (h2 k hk), hd, ha, hl⟩

theorem sats_move {w w' : World} : ∀ {L : List HP} {S : FS}, (∀ k, S k → k < w.heap.size → w'.heap[k]? = w.heap[k]?) → sats L S w → sats L S w'
  | [], _, _, _ => trivial
  | A :: _, _, h, ⟨S1, S2, h1, h2, hd, ha, hl⟩ =>
    ⟨S1, S2, h1, h2, hd, A.move (fun k hk => h k (h1 k hk)) ha, sats_move (fun k hk => h k (h2 k hk)) hl⟩

theorem sats_bound {w : World} : ∀ {L : List HP} {S : FS}, sats L S w → sats L (fun k => S k ∧ k < w.heap.size) w
  | [], _, _ => trivial
  | A :: _, _, ⟨S1, S2, h1, h2, hd, ha, hl⟩ =>
    ⟨_, _, fun k hk => ⟨h1 k hk.1, hk.2⟩, fun k hk => ⟨h2 k hk.1, hk.2⟩, fun k hk hk2 => hd k hk.1 hk2.1, A.bound ha, sats_bound hl⟩

/-- Take entry i out. -/
theorem sats_get {w : World} {A : HP} : ∀ {L : List HP} {i : Nat} {S : FS}, L[i]? = some A → sats L S w →
    ∃ S1 S2 : FS, (∀ k, S1 k → S k) ∧ (∀ k, S2 k → S k) ∧ (∀ k, S1 k → ¬ S2 k) ∧ A.sat S1 w ∧ sats (L.eraseIdx i) S2 w
  | [], _, _, h, _ => by simp at h
  | B :: L, 0, S, h, hs => by
    obtain rfl : B = A := by simpa using h
    exact hs
  | B :: L, i + 1, S, h, ⟨S1, S2, h1, h2, hd, ha, hl⟩ => by
    have h' : L[i]? = some A := by simpa using h
    obtain ⟨T1, T2, t1, t2, td, ta, tl⟩ := sats_get h' hl
    refine ⟨T1, fun k => S1 k ∨ T2 k, fun k hk => h2 k (t1 k hk), fun k hk => hk.elim (h1 k) (fun hk => h2 k (t2 k hk)), ?_, ta, ?_⟩
    · intro k hk hk2
      rcases hk2 with hk2 | hk2
      · exact hd k hk2 (t1 k hk)
      · exact td k hk hk2
    · exact ⟨S1, T2, fun k hk => .inl hk, fun k hk => .inr hk, fun k hk hk2 => hd k hk (t2 k hk2), ha, tl⟩

/-- Put an entry (or another in its place) back. -/
theorem sats_put {w : World} {A : HP} : ∀ {L : List HP} {i : Nat} {S1 S2 : FS}, i < L.length → A.sat S1 w → sats (L.eraseIdx i) S2 w → (∀ k, S1 k → ¬ S2 k) →
    sats (L.set i A) (fun k => S1 k ∨ S2 k) w
  | [], _, _, _, h, _, _, _ => by simp at h
  | B :: L, 0, S1, S2, _, ha, hl, hd => ⟨S1, S2, fun k hk => .inl hk, fun k hk => .inr hk, hd, ha, hl⟩
  | B :: L, i + 1, S1, S2, hi, ha, ⟨T1, T2, t1, t2, td, tb, tl⟩, hd => by
    refine ⟨T1, fun k => S1 k ∨ T2 k, fun k hk => .inr (t1 k hk), ?_, ?_, tb, ?_⟩
    · intro k hk
      rcases hk with hk | hk
      · exact .inl hk
      · exact .inr (t2 k hk)
    · intro k hk hk2
      rcases hk2 with hk2 | hk2
      · exact hd k hk2 (t1 k hk)
      · exact td k hk hk2
    · exact sats_put (by simpa using hi) ha tl (fun k hk hk2 => hd k hk (t2 k hk2))

theorem sats_append {w : World} : ∀ {L M : List HP} {S1 S2 : FS}, sats L S1 w → sats M S2 w → (∀ k, S1 k → ¬ S2 k) → sats (L ++ M) (fun k => S1 k ∨ S2 k) w
  | [], _, _, _, _, hm, _ => sats_mono (fun _ h => .inr h) hm
  | A :: L, M, S1, S2, ⟨T1, T2, t1, t2, td, ta, tl⟩, hm, hd =>
    ⟨T1, fun k => T2 k ∨ S2 k, fun k hk => .inl (t1 k hk), fun k hk => hk.elim (fun h => .inl (t2 k h)) .inr,
      fun k hk hk2 => hk2.elim (td k hk) (hd k (t1 k hk)), ta, sats_append tl hm (fun k hk => hd k (t2 k hk))⟩

theorem sats_split {w : World} : ∀ {L M : List HP} {S : FS}, sats (L ++ M) S w →
    ∃ S1 S2 : FS, (∀ k, S1 k → S k) ∧ (∀ k, S2 k → S k) ∧ (∀ k, S1 k → ¬ S2 k) ∧ sats L S1 w ∧ sats M S2 w
  | [], _, S, h => ⟨fun _ => False, S, fun _ h => h.elim, fun _ h => h, fun _ h => h.elim, trivial, h⟩
  | A :: L, M, S, ⟨T1, T2, t1, t2, td, ta, tl⟩ => by
    obtain ⟨U1, U2, u1, u2, ud, ul, um⟩ := sats_split (L := L) tl
    exact ⟨fun k => T1 k ∨ U1 k, U2, fun k hk => hk.elim (t1 k) (fun h => t2 k (u1 k h)), fun k hk => t2 k (u2 k hk),
      fun k hk hk2 => hk.elim (fun h => td k h (u2 k hk2)) (fun h => ud k h hk2),
      ⟨T1, U1, fun k h => .inl h, fun k h => .inr h, fun k h h2 => td k h (u1 k h2), ta, ul⟩, um⟩

/-- What the call owns now; what it began with. -/
def St (w0 : World) (S0 : FS) (L : List HP) (w : World) : Prop := ∃ S, Mod w0 S0 w S ∧ sats L S w

theorem St.start {w : World} {S : FS} {L : List HP} (h : sats L S w) : St w S L w := ⟨S, Mod.refl w S, h⟩

/-- One entry is turned by a step that changes its own blocks alone. -/
theorem St.step {w0 w w' : World} {S0 : FS} {L : List HP} {i : Nat} {A A' : HP} (h : St w0 S0 L w) (hi : L[i]? = some A)
    (hs : ∀ S, A.sat S w → ∃ S', Mod w S w' S' ∧ A'.sat S' w') : St w0 S0 (L.set i A') w' := by
  obtain ⟨S, hm, hl⟩ := h
  obtain ⟨S1, S2, h1, h2, hd, ha, hl⟩ := sats_get hi (sats_bound hl)
  obtain ⟨S', hm', ha'⟩ := hs S1 ha
  have hi' : i < L.length := (List.getElem?_eq_some_iff.1 hi).1
  have hk2 : sats (L.eraseIdx i) S2 w' := sats_move (fun k hk hlt => hm'.keep k hlt (fun hk1 => hd k hk1 hk)) hl
  have hdis : ∀ k, S' k → ¬ S2 k := fun k hk hk2 => by
    rcases hm'.new k hk with h | h
    · exact hd k h hk2
    · have := (h2 k hk2).2; omega
  refine ⟨_, hm.trans ?_, sats_put hi' ha' hk2 hdis⟩
  exact ⟨hm'.os, hm'.tape, hm'.output, hm'.size, fun k hk hn => hm'.keep k hk (fun hk1 => hn (h1 k hk1).1),
    fun k hk => hk.elim (fun h => (hm'.new k h).imp (fun h => (h1 k h).1) id) (fun h => .inl (h2 k h).1)⟩

/-- A new entry, out of blocks that are new. -/
theorem St.push {w0 w w' : World} {S0 : FS} {L M : List HP} (h : St w0 S0 L w) (hb : Mod w (fun _ => False) w' (fun k => w.heap.size ≤ k)) (hs : sats M (fun k => w.heap.size ≤ k) w') :
    St w0 S0 (M ++ L) w' := by
  obtain ⟨S, hm, hl⟩ := h
  have hl' := sats_move (w' := w') (fun k _ hlt => hb.keep k hlt (fun h => h)) (sats_bound hl)
  refine ⟨_, hm.trans ?_, sats_append hs hl' (fun k hk hk2 => by have := hk2.2; omega)⟩
  exact ⟨hb.os, hb.tape, hb.output, hb.size, fun k hk _ => hb.keep k hk (fun h => h), fun k hk => hk.elim .inr (fun h => .inl h.1)⟩

theorem St.same {w0 w w' : World} {S0 : FS} {L : List HP} (h : St w0 S0 L w) (hb : Below w.heap.size w w') : St w0 S0 L w' := by
  obtain ⟨S, hm, hl⟩ := h
  exact ⟨S, hm.trans (Mod.of_below hb S), sats_move (fun k _ hlt => hb.block k hlt) hl⟩

theorem St.drew {w0 w : World} {S0 : FS} {L : List HP} (h : St w0 S0 L w) : St w0 S0 L { w with drawn := w.drawn + 1 } :=
  h.same ⟨rfl, rfl, rfl, Nat.le_refl _, fun _ _ => rfl⟩

/-- Choose, reorder, drop entries: the places, each once. -/
def pick (L : List HP) : List Nat → Option (List HP)
  | [] => some []
  | i :: is => match L[i]?, pick (L.eraseIdx i) is with
    | some A, some M => some (A :: M)
    | _, _ => none

theorem sats_pick {w : World} : ∀ {is : List Nat} {L M : List HP} {S : FS}, pick L is = some M → sats L S w → sats M S w
  | [], _, _, _, h, _ => by simp [pick] at h; subst h; trivial
  | i :: is, L, M, S, h, hs => by
    unfold pick at h
    cases hi : L[i]? with
    | none => simp [hi] at h
    | some A =>
      cases hp : pick (L.eraseIdx i) is with
      | none => simp [hi, hp] at h
      | some M' =>
        simp only [hi, hp, Option.some.injEq] at h
        subst h
        obtain ⟨S1, S2, h1, h2, hd, ha, hl⟩ := sats_get hi hs
        exact ⟨S1, S2, h1, h2, hd, ha, sats_pick hp hl⟩

theorem St.pick {w0 w : World} {S0 : FS} {L M : List HP} (is : List Nat) (hp : Sl.pick L is = some M) (h : St w0 S0 L w) : St w0 S0 M w := by
  obtain ⟨S, hm, hl⟩ := h
  exact ⟨S, hm, sats_pick hp hl⟩

theorem St.tl {w0 w : World} {S0 : FS} {A : HP} {L : List HP} (h : St w0 S0 (A :: L) w) : St w0 S0 L w := by
  obtain ⟨S, hm, S1, S2, h1, h2, hd, ha, hl⟩ := h
  exact ⟨S, hm, sats_mono h2 hl⟩

/-! What is known of a frame -/
def fget : List (Nat × Value) → Nat → Option Value
  | [], _ => none
  | (k, v) :: l, t => cond (Nat.beq k t) (some v) (fget l t)

structure Fr (F : List (Nat × Value)) (n : Nat) (a : Act) : Prop where
  df : a.defers = []
  sz : a.tmps.size = n
  look : ∀ t v, fget F t = some v → a.tmps.getD t undef = v

def ev (F : List (Nat × Value)) : Operand → Option Value
  | .tmp t => fget F t
  | .const v => some v
  | .global g => some (.pointer (some ⟨g, 0, none⟩))
  | .func f => some (.func (.func f) #[] #[])

theorem Fr.eval {F : List (Nat × Value)} {n : Nat} {a : Act} {x : Operand} {v : Value} (h : Fr F n a) (hx : ev F x = some v) : a.eval x = v := by
  cases x with
  | tmp t => exact h.look t v hx
  | const u => exact Option.some.inj hx
  | global g => exact Option.some.inj hx
  | func f => exact Option.some.inj hx

theorem Fr.put {F : List (Nat × Value)} {n d : Nat} {a : Act} {v : Value} (h : Fr F n a) (hd : Nat.blt d n = true) : Fr ((d, v) :: F) n (a.put (some d) v) := by
  have hd' : d < n := by simpa using hd
  refine ⟨h.df, by simp [Act.put, h.sz], fun t u ht => ?_⟩
  simp only [fget] at ht
  by_cases e : d = t
  · subst e
    simp only [Nat.beq_refl, cond_true, Option.some.injEq] at ht
    subst ht
    simp [Act.put, h.sz, hd']
  · have hb : Nat.beq d t = false := by
      cases hq : Nat.beq d t
      · rfl
      · exact absurd (Nat.eq_of_beq_eq_true hq) e
    rw [hb, cond_false] at ht
    have := h.look t u ht
    simp only [Act.put]
    rw [← this]
    simp [Array.getD_eq_getD_getElem?, e]

theorem Fr.putNone {F : List (Nat × Value)} {n : Nat} {a : Act} {v : Value} (h : Fr F n a) : Fr F n (a.put none v) := h

theorem Fr.weaken {F G : List (Nat × Value)} {n : Nat} {a : Act} (h : Fr F n a) (hg : ∀ t v, fget G t = some v → fget F t = some v) : Fr G n a :=
  ⟨h.df, h.sz, fun t v ht => h.look t v (hg t v ht)⟩

/-- G says no more than F. -/
def covers (F : List (Nat × Value)) : List (Nat × Value) → Prop
  | [] => True
  | (t, v) :: G => fget F t = some v ∧ covers F G

theorem covers_spec {F : List (Nat × Value)} : ∀ {G : List (Nat × Value)}, covers F G → ∀ t v, fget G t = some v → fget F t = some v
  | [], _, _, _, h => by simp [fget] at h
  | (k, u) :: G, ⟨h1, h2⟩, t, v, h => by
    simp only [fget] at h
    cases hb : Nat.beq k t
    · rw [hb, cond_false] at h; exact covers_spec h2 t v h
    · rw [hb, cond_true] at h
      have := Nat.eq_of_beq_eq_true hb
      subst this
      rw [← h]; exact h1

section
variable {P : Program} {w0 : World} {S0 : FS} {n : Nat} {F : List (Nat × Value)} {L : List HP}

def Reach (w0 : World) (S0 : FS) (n : Nat) (F : List (Nat × Value)) (L : List HP) (R : Act → World → Prop) : Prop :=
  ∀ a w, Fr F n a → St w0 S0 L w → R a w

theorem Reach.weaken {G : List (Nat × Value)} {M : List HP} {R : Act → World → Prop} (is : List Nat) (hL : pick L is = some M) (hF : covers F G) (h : Reach w0 S0 n G M R) : Reach w0 S0 n F L R :=
  fun a w hf hs => h a w (hf.weaken (covers_spec hF)) (hs.pick is hL)

/-- what is known of a world, laid open -/
theorem Reach.know {R : Act → World → Prop} {p : Prop} (hp : ∀ w, St w0 S0 L w → p) (h : p → Reach w0 S0 n F L R) : Reach w0 S0 n F L R :=
  fun a w hf hs => h (hp w hs) a w hf hs

/-! code -/
theorem c_seq {x y : Code} {Q : Exit → Act → World → Prop} (h : Reach w0 S0 n F L (x.wp P (Exit.then (y.wp P Q) Q))) : Reach w0 S0 n F L ((Code.seq x y).wp P Q) :=
  fun a w hf hs => wp_seq (h a w hf hs)
theorem c_skip {Q : Exit → Act → World → Prop} (h : Reach w0 S0 n F L (Q .normal)) : Reach w0 S0 n F L (Code.skip.wp P Q) :=
  fun a w hf hs => wp_skip (h a w hf hs)
theorem c_exit {id : Nat} {Q : Exit → Act → World → Prop} (h : Reach w0 S0 n F L (Q (.exit id))) : Reach w0 S0 n F L ((Code.exit id).wp P Q) :=
  fun a w hf hs => wp_exit (h a w hf hs)
theorem c_ret {Q : Exit → Act → World → Prop} (h : Reach w0 S0 n F L (Q .ret)) : Reach w0 S0 n F L (Code.ret.wp P Q) :=
  fun a w hf hs => wp_ret (h a w hf hs)
theorem c_block {id : Nat} {c : Code} {Q : Exit → Act → World → Prop} (h : Reach w0 S0 n F L (c.wp P (Exit.inBlock id Q))) : Reach w0 S0 n F L ((Code.block id c).wp P Q) :=
  fun a w hf hs => wp_block (h a w hf hs)
theorem c_label {l : Nat} {Q : Exit → Act → World → Prop} (h : Reach w0 S0 n F L (Q .normal)) : Reach w0 S0 n F L ((Code.label l).wp P Q) :=
  fun a w hf hs => wp_label (h a w hf hs)
theorem c_cond {c : Operand} {x y : Code} {t : Bool} {Q : Exit → Act → World → Prop} (hc : ev F c = some (.bool t))
    (ht : t = true → Reach w0 S0 n F L (x.wp P Q)) (hf : t = false → Reach w0 S0 n F L (y.wp P Q)) : Reach w0 S0 n F L ((Code.cond c x y).wp P Q) :=
  fun a w hfr hs => by
    cases t with
    | true => exact wp_cond (hfr.eval hc) (ht rfl a w hfr hs)
    | false => exact wp_cond (hfr.eval hc) (hf rfl a w hfr hs)
theorem c_cond_p {c : Operand} {x y : Code} {p : Prop} [Decidable p] {Q : Exit → Act → World → Prop} (hc : ev F c = some (.bool (decide p)))
    (ht : p → Reach w0 S0 n F L (x.wp P Q)) (hf : ¬ p → Reach w0 S0 n F L (y.wp P Q)) : Reach w0 S0 n F L ((Code.cond c x y).wp P Q) :=
  c_cond hc (fun h => ht (of_decide_eq_true h)) (fun h => hf (of_decide_eq_false h))
theorem c_region {id : Nat} {l : List Oper} {Q : Exit → Act → World → Prop} (h : Reach w0 S0 n F L (wpList P l.toArray Q l)) : Reach w0 S0 n F L ((Code.region id l.toArray false).wp P Q) :=
  fun a w hf hs => wp_region_lit (h a w hf hs)

theorem k_then {K : Act → World → Prop} {Q : Exit → Act → World → Prop} (h : Reach w0 S0 n F L K) : Reach w0 S0 n F L (Exit.then K Q .normal) := fun a w hf hs => h a w hf hs
theorem k_then_ret {K : Act → World → Prop} {Q : Exit → Act → World → Prop} (h : Reach w0 S0 n F L (Q .ret)) : Reach w0 S0 n F L (Exit.then K Q .ret) := fun a w hf hs => h a w hf hs
theorem k_then_exit {id : Nat} {K : Act → World → Prop} {Q : Exit → Act → World → Prop} (h : Reach w0 S0 n F L (Q (.exit id))) : Reach w0 S0 n F L (Exit.then K Q (.exit id)) := fun a w hf hs => h a w hf hs
theorem k_blk {id : Nat} {Q : Exit → Act → World → Prop} (h : Reach w0 S0 n F L (Q .normal)) : Reach w0 S0 n F L (Exit.inBlock id Q .normal) := fun a w hf hs => h a w hf hs
theorem k_blk_ret {id : Nat} {Q : Exit → Act → World → Prop} (h : Reach w0 S0 n F L (Q .ret)) : Reach w0 S0 n F L (Exit.inBlock id Q .ret) := fun a w hf hs => h a w hf hs
theorem k_blk_eq {id : Nat} {Q : Exit → Act → World → Prop} (h : Reach w0 S0 n F L (Q .normal)) : Reach w0 S0 n F L (Exit.inBlock id Q (.exit id)) := fun a w hf hs => by simp only [Exit.inBlock, if_true]; exact h a w hf hs
theorem k_blk_ne {id id' : Nat} {Q : Exit → Act → World → Prop} (hne : Nat.beq id' id = false) (h : Reach w0 S0 n F L (Q (.exit id'))) : Reach w0 S0 n F L (Exit.inBlock id Q (.exit id')) := fun a w hf hs => by
  have : id' ≠ id := fun e => by rw [e, Nat.beq_refl] at hne; exact absurd hne (by simp)
  simp only [Exit.inBlock, this, if_false]; exact h a w hf hs
theorem c_cond_t {c : Operand} {x y : Code} {Q : Exit → Act → World → Prop} (hc : ev F c = some (.bool true)) (h : Reach w0 S0 n F L (x.wp P Q)) : Reach w0 S0 n F L ((Code.cond c x y).wp P Q) :=
  c_cond hc (fun _ => h) (fun h => by simp at h)
theorem c_cond_f {c : Operand} {x y : Code} {Q : Exit → Act → World → Prop} (hc : ev F c = some (.bool false)) (h : Reach w0 S0 n F L (y.wp P Q)) : Reach w0 S0 n F L ((Code.cond c x y).wp P Q) :=
  c_cond hc (fun h => by simp at h) (fun _ => h)

/-- A loop: at each round's head the frame IF x and the entries IL x, for some x of which I holds; a measure goes down. -/
theorem c_loop {X : Type} {c : Code} {Q : Exit → Act → World → Prop} (I : X → Prop) (IF : X → List (Nat × Value)) (IL : X → List HP) (μ : X → Nat) (x0 : X) (is : List Nat) (h0 : I x0) (hL : pick L is = some (IL x0)) (hF : covers F (IF x0))
    (round : ∀ x, I x → Reach w0 S0 n (IF x) (IL x) (c.wp P (Exit.then (fun a w => ∃ y, I y ∧ μ y < μ x ∧ Fr (IF y) n a ∧ St w0 S0 (IL y) w) Q))) : Reach w0 S0 n F L ((Code.loop c).wp P Q) := by
  intro a w hf hs
  refine wp_loop_ghost (fun m a w => ∃ x, I x ∧ μ x = m ∧ Fr (IF x) n a ∧ St w0 S0 (IL x) w) (μ x0) ⟨x0, h0, rfl, hf.weaken (covers_spec hF), hs.pick is hL⟩ ?_
  rintro m a w ⟨x, hx, rfl, hf, hs⟩
  refine wp_mono (round x hx a w hf hs) ?_
  intro e a w h
  cases e <;> first | exact h | (obtain ⟨y, hi, hy, hf, hs⟩ := h; exact ⟨μ y, hy, y, hi, rfl, hf, hs⟩)

/-- A round's end. -/
theorem c_round {X : Type} {I : X → Prop} {IF : X → List (Nat × Value)} {IL : X → List HP} {μ : X → Nat} {m0 : Nat} (y : X) (is : List Nat) (hL : pick L is = some (IL y)) (hF : covers F (IF y)) (hI : I y) (hμ : μ y < m0) :
    Reach w0 S0 n F L (fun a w => ∃ y, I y ∧ μ y < m0 ∧ Fr (IF y) n a ∧ St w0 S0 (IL y) w) :=
  fun _ _ hf hs => ⟨y, hI, hμ, hf.weaken (covers_spec hF), hs.pick is hL⟩
end
end Go.Sl
