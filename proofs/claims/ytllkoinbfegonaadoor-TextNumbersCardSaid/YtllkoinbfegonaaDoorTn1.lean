/- Of TextNumbers: part 1: what the walks rest on, contracts of functions and plain lemmas; no condition but those that each states. -/
import Derived.WalkKit
import Derived.Deep.Quiet
import Derived.OrdersHeld
import Derived.KernelRfl
import Derived.Deep.LoopGhost
import Derived.Laws.AppendOwn
import Derived.Laws.MakeOwn
import Derived.Laws.OwnMore
import Derived.LaidEql
import Derived.Stop.Asserts
import Derived.Laws.BytesArg
import Derived.Laws.IdiomStrings
set_option linter.unusedVariables false
set_option linter.unusedSimpArgs false
section
set_option linter.unusedVariables false
namespace Go.Sl
open Go Go.RowKit
abbrev FS := Nat → Prop
structure Mod (w : World) (S : FS) (w' : World) (S' : FS) : Prop where
  os : w'.os = w.os
  tape : w'.tape = w.tape
  output : w'.output = w.output
  drawn : w.drawn ≤ w'.drawn
  size : w.heap.size ≤ w'.heap.size
  keep : ∀ k, k < w.heap.size → ¬ S k → w'.heap[k]? = w.heap[k]?
  new : ∀ k, S' k → S k ∨ w.heap.size ≤ k
theorem Mod.refl (w : World) (S : FS) : Mod w S w S := ⟨rfl, rfl, rfl, Nat.le_refl _, Nat.le_refl _, fun _ _ _ => rfl, fun _ h => .inl h⟩
theorem Mod.trans {w w1 w2 : World} {S S1 S2 : FS} (h : Mod w S w1 S1) (k : Mod w1 S1 w2 S2) : Mod w S w2 S2 where
  os := k.os.trans h.os
  tape := k.tape.trans h.tape
  output := k.output.trans h.output
  drawn := Nat.le_trans h.drawn k.drawn
  size := Nat.le_trans h.size k.size
  keep i hi hn := by
    rw [k.keep i (Nat.lt_of_lt_of_le hi h.size) (fun h1 => ?_), h.keep i hi hn]
    rcases h.new i h1 with h2 | h2
    · exact hn h2
    · omega
  new i h2 := by
    rcases k.new i h2 with h1 | h1
    · exact h.new i h1
    · exact .inr (Nat.le_trans h.size h1)
theorem Mod.below {w w' : World} {S' : FS} (h : Mod w (fun _ => False) w' S') : Below w.heap.size w w' :=
  ⟨h.os, h.tape, h.output, h.size, fun k hk => h.keep k hk (fun hf => hf)⟩
theorem Mod.of_below {w w' : World} (h : Below w.heap.size w w') (hd : w.drawn ≤ w'.drawn) (S : FS) : Mod w S w' S :=
  ⟨h.os, h.tape, h.output, hd, h.size, fun k hk _ => h.block k hk, fun _ h => .inl h⟩
structure HP where
  sat : FS → World → Prop
  mono : ∀ {S S' : FS} {w : World}, (∀ k, S k → S' k) → sat S w → sat S' w
  move : ∀ {S : FS} {w w' : World}, (∀ k, S k → k < w.heap.size → w'.heap[k]? = w.heap[k]?) → sat S w → sat S w'
  bound : ∀ {S : FS} {w : World}, sat S w → sat (fun k => S k ∧ k < w.heap.size) w
def sats : List HP → FS → World → Prop
  | [], _, _ => True
  | A :: L, S, w => ∃ S1 S2 : FS, (∀ k, S1 k → S k) ∧ (∀ k, S2 k → S k) ∧ (∀ k, S1 k → ¬ S2 k) ∧ A.sat S1 w ∧ sats L S2 w
theorem sats_mono {w : World} : ∀ {L : List HP} {S S' : FS}, (∀ k, S k → S' k) → sats L S w → sats L S' w
  | [], _, _, _, _ => trivial
  | _ :: _, _, _, h, ⟨S1, S2, h1, h2, hd, ha, hl⟩ => ⟨S1, S2, fun k hk => h k (h1 k hk), fun k hk => h k (h2 k hk), hd, ha, hl⟩
theorem sats_move {w w' : World} : ∀ {L : List HP} {S : FS}, (∀ k, S k → k < w.heap.size → w'.heap[k]? = w.heap[k]?) → sats L S w → sats L S w'
  | [], _, _, _ => trivial
  | A :: _, _, h, ⟨S1, S2, h1, h2, hd, ha, hl⟩ =>
    ⟨S1, S2, h1, h2, hd, A.move (fun k hk => h k (h1 k hk)) ha, sats_move (fun k hk => h k (h2 k hk)) hl⟩
theorem sats_bound {w : World} : ∀ {L : List HP} {S : FS}, sats L S w → sats L (fun k => S k ∧ k < w.heap.size) w
  | [], _, _ => trivial
  | A :: _, _, ⟨S1, S2, h1, h2, hd, ha, hl⟩ =>
    ⟨_, _, fun k hk => ⟨h1 k hk.1, hk.2⟩, fun k hk => ⟨h2 k hk.1, hk.2⟩, fun k hk hk2 => hd k hk.1 hk2.1, A.bound ha, sats_bound hl⟩
/-- Take entry i out. -/
theorem sats_get {w : World} {A : HP} : ∀ {L : List HP} {i : Nat} {S : FS}, L[i]? = some A → sats L S w →
    ∃ S1 S2 : FS, (∀ k, S1 k → S k) ∧ (∀ k, S2 k → S k) ∧ (∀ k, S1 k → ¬ S2 k) ∧ A.sat S1 w ∧ sats (L.eraseIdx i) S2 w
  | [], _, _, h, _ => by simp at h
  | B :: L, 0, S, h, hs => by
    obtain rfl : B = A := by simpa using h
    exact hs
  | B :: L, i + 1, S, h, ⟨S1, S2, h1, h2, hd, ha, hl⟩ => by
    have h' : L[i]? = some A := by simpa using h
    obtain ⟨T1, T2, t1, t2, td, ta, tl⟩ := sats_get h' hl
    refine ⟨T1, fun k => S1 k ∨ T2 k, fun k hk => h2 k (t1 k hk), fun k hk => hk.elim (h1 k) (fun hk => h2 k (t2 k hk)), ?_, ta, ?_⟩
    · intro k hk hk2
      rcases hk2 with hk2 | hk2
      · exact hd k hk2 (t1 k hk)
      · exact td k hk hk2
    · exact ⟨S1, T2, fun k hk => .inl hk, fun k hk => .inr hk, fun k hk hk2 => hd k hk (t2 k hk2), ha, tl⟩
/-- Put an entry (or another in its place) back. -/
theorem sats_put {w : World} {A : HP} : ∀ {L : List HP} {i : Nat} {S1 S2 : FS}, i < L.length → A.sat S1 w → sats (L.eraseIdx i) S2 w → (∀ k, S1 k → ¬ S2 k) →
    sats (L.set i A) (fun k => S1 k ∨ S2 k) w
  | [], _, _, _, h, _, _, _ => by simp at h
  | B :: L, 0, S1, S2, _, ha, hl, hd => ⟨S1, S2, fun k hk => .inl hk, fun k hk => .inr hk, hd, ha, hl⟩
  | B :: L, i + 1, S1, S2, hi, ha, ⟨T1, T2, t1, t2, td, tb, tl⟩, hd => by
    refine ⟨T1, fun k => S1 k ∨ T2 k, fun k hk => .inr (t1 k hk), ?_, ?_, tb, ?_⟩
    · intro k hk
      rcases hk with hk | hk
      · exact .inl hk
      · exact .inr (t2 k hk)
    · intro k hk hk2
      rcases hk2 with hk2 | hk2
      · exact hd k hk2 (t1 k hk)
      · exact td k hk hk2
    · exact sats_put (by simpa using hi) ha tl (fun k hk hk2 => hd k hk (t2 k hk2))
theorem sats_append {w : World} : ∀ {L M : List HP} {S1 S2 : FS}, sats L S1 w → sats M S2 w → (∀ k, S1 k → ¬ S2 k) → sats (L ++ M) (fun k => S1 k ∨ S2 k) w
  | [], _, _, _, _, hm, _ => sats_mono (fun _ h => .inr h) hm
  | A :: L, M, S1, S2, ⟨T1, T2, t1, t2, td, ta, tl⟩, hm, hd =>
    ⟨T1, fun k => T2 k ∨ S2 k, fun k hk => .inl (t1 k hk), fun k hk => hk.elim (fun h => .inl (t2 k h)) .inr,
      fun k hk hk2 => hk2.elim (td k hk) (hd k (t1 k hk)), ta, sats_append tl hm (fun k hk => hd k (t2 k hk))⟩
theorem sats_split {w : World} : ∀ {L M : List HP} {S : FS}, sats (L ++ M) S w →
    ∃ S1 S2 : FS, (∀ k, S1 k → S k) ∧ (∀ k, S2 k → S k) ∧ (∀ k, S1 k → ¬ S2 k) ∧ sats L S1 w ∧ sats M S2 w
  | [], _, S, h => ⟨fun _ => False, S, fun _ h => h.elim, fun _ h => h, fun _ h => h.elim, trivial, h⟩
  | A :: L, M, S, ⟨T1, T2, t1, t2, td, ta, tl⟩ => by
    obtain ⟨U1, U2, u1, u2, ud, ul, um⟩ := sats_split (L := L) tl
    exact ⟨fun k => T1 k ∨ U1 k, U2, fun k hk => hk.elim (t1 k) (fun h => t2 k (u1 k h)), fun k hk => t2 k (u2 k hk),
      fun k hk hk2 => hk.elim (fun h => td k h (u2 k hk2)) (fun h => ud k h hk2),
      ⟨T1, U1, fun k h => .inl h, fun k h => .inr h, fun k h h2 => td k h (u1 k h2), ta, ul⟩, um⟩
/-- What the call owns now; what it began with. -/
def St (w0 : World) (S0 : FS) (L : List HP) (w : World) : Prop := ∃ S, Mod w0 S0 w S ∧ sats L S w
theorem St.start {w : World} {S : FS} {L : List HP} (h : sats L S w) : St w S L w := ⟨S, Mod.refl w S, h⟩
/-- One entry is turned by a step that changes its own blocks alone. -/
theorem St.step {w0 w w' : World} {S0 : FS} {L : List HP} {i : Nat} {A A' : HP} (h : St w0 S0 L w) (hi : L[i]? = some A)
    (hs : ∀ S, A.sat S w → ∃ S', Mod w S w' S' ∧ A'.sat S' w') : St w0 S0 (L.set i A') w' := by
  obtain ⟨S, hm, hl⟩ := h
  obtain ⟨S1, S2, h1, h2, hd, ha, hl⟩ := sats_get hi (sats_bound hl)
  obtain ⟨S', hm', ha'⟩ := hs S1 ha
  have hi' : i < L.length := (List.getElem?_eq_some_iff.1 hi).1
  have hk2 : sats (L.eraseIdx i) S2 w' := sats_move (fun k hk hlt => hm'.keep k hlt (fun hk1 => hd k hk1 hk)) hl
  have hdis : ∀ k, S' k → ¬ S2 k := fun k hk hk2 => by
    rcases hm'.new k hk with h | h
    · exact hd k h hk2
    · have := (h2 k hk2).2; omega
  refine ⟨_, hm.trans ?_, sats_put hi' ha' hk2 hdis⟩
  exact ⟨hm'.os, hm'.tape, hm'.output, hm'.drawn, hm'.size, fun k hk hn => hm'.keep k hk (fun hk1 => hn (h1 k hk1).1),
    fun k hk => hk.elim (fun h => (hm'.new k h).imp (fun h => (h1 k h).1) id) (fun h => .inl (h2 k h).1)⟩
/-- A new entry, out of blocks that are new. -/
theorem St.push {w0 w w' : World} {S0 : FS} {L M : List HP} (h : St w0 S0 L w) (hb : Mod w (fun _ => False) w' (fun k => w.heap.size ≤ k)) (hs : sats M (fun k => w.heap.size ≤ k) w') :
    St w0 S0 (M ++ L) w' := by
  obtain ⟨S, hm, hl⟩ := h
  have hl' := sats_move (w' := w') (fun k _ hlt => hb.keep k hlt (fun h => h)) (sats_bound hl)
  refine ⟨_, hm.trans ?_, sats_append hs hl' (fun k hk hk2 => by have := hk2.2; omega)⟩
  exact ⟨hb.os, hb.tape, hb.output, hb.drawn, hb.size, fun k hk _ => hb.keep k hk (fun h => h), fun k hk => hk.elim .inr (fun h => .inl h.1)⟩
theorem St.same {w0 w w' : World} {S0 : FS} {L : List HP} (h : St w0 S0 L w) (hb : Below w.heap.size w w') (hd : w.drawn ≤ w'.drawn) : St w0 S0 L w' := by
  obtain ⟨S, hm, hl⟩ := h
  exact ⟨S, hm.trans (Mod.of_below hb hd S), sats_move (fun k _ hlt => hb.block k hlt) hl⟩
theorem St.drew {w0 w : World} {S0 : FS} {L : List HP} (h : St w0 S0 L w) : St w0 S0 L { w with drawn := w.drawn + 1 } :=
  h.same ⟨rfl, rfl, rfl, Nat.le_refl _, fun _ _ => rfl⟩ (Nat.le_succ _)
/-- Choose, reorder, drop entries: the places, each once. -/
def pick (L : List HP) : List Nat → Option (List HP)
  | [] => some []
  | i :: is => match L[i]?, pick (L.eraseIdx i) is with
    | some A, some M => some (A :: M)
    | _, _ => none
theorem sats_pick {w : World} : ∀ {is : List Nat} {L M : List HP} {S : FS}, pick L is = some M → sats L S w → sats M S w
  | [], _, _, _, h, _ => by simp [pick] at h; subst h; trivial
  | i :: is, L, M, S, h, hs => by
    unfold pick at h
    cases hi : L[i]? with
    | none => simp [hi] at h
    | some A =>
      cases hp : pick (L.eraseIdx i) is with
      | none => simp [hi, hp] at h
      | some M' =>
        simp only [hi, hp, Option.some.injEq] at h
        subst h
        obtain ⟨S1, S2, h1, h2, hd, ha, hl⟩ := sats_get hi hs
        exact ⟨S1, S2, h1, h2, hd, ha, sats_pick hp hl⟩
theorem St.pick {w0 w : World} {S0 : FS} {L M : List HP} (is : List Nat) (hp : Sl.pick L is = some M) (h : St w0 S0 L w) : St w0 S0 M w := by
  obtain ⟨S, hm, hl⟩ := h
  exact ⟨S, hm, sats_pick hp hl⟩
theorem St.tl {w0 w : World} {S0 : FS} {A : HP} {L : List HP} (h : St w0 S0 (A :: L) w) : St w0 S0 L w := by
  obtain ⟨S, hm, S1, S2, h1, h2, hd, ha, hl⟩ := h
  exact ⟨S, hm, sats_mono h2 hl⟩
def fget : List (Nat × Value) → Nat → Option Value
  | [], _ => none
  | (k, v) :: l, t => cond (Nat.beq k t) (some v) (fget l t)
/-- what the function has deferred: nothing, where nothing else is said -/
class HasD (n : Nat) where
  D : List Deferred
instance noD (n : Nat) : HasD n := ⟨[]⟩
structure Fr (F : List (Nat × Value)) (n : Nat) [HasD n] (a : Act) : Prop where
  df : a.defers = HasD.D n
  sz : a.tmps.size = n
  look : ∀ t v, fget F t = some v → a.tmps.getD t undef = v
def ev (F : List (Nat × Value)) : Operand → Option Value
  | .tmp t => fget F t
  | .const v => some v
  | .global g => some (.pointer (some ⟨g, 0, none⟩))
  | .func f => some (.func (.func f) #[] #[])
theorem Fr.eval {F : List (Nat × Value)} {n : Nat} [HasD n] {a : Act} {x : Operand} {v : Value} (h : Fr F n a) (hx : ev F x = some v) : a.eval x = v := by
  cases x with
  | tmp t => exact h.look t v hx
  | const u => exact Option.some.inj hx
  | global g => exact Option.some.inj hx
  | func f => exact Option.some.inj hx
theorem Fr.put {F : List (Nat × Value)} {n d : Nat} [HasD n] {a : Act} {v : Value} (h : Fr F n a) (hd : Nat.blt d n = true) : Fr ((d, v) :: F) n (a.put (some d) v) := by
  have hd' : d < n := by simpa using hd
  refine ⟨h.df, by simp [Act.put, h.sz], fun t u ht => ?_⟩
  simp only [fget] at ht
  by_cases e : d = t
  · subst e
    simp only [Nat.beq_refl, cond_true, Option.some.injEq] at ht
    subst ht
    simp [Act.put, h.sz, hd']
  · have hb : Nat.beq d t = false := by
      cases hq : Nat.beq d t
      · rfl
      · exact absurd (Nat.eq_of_beq_eq_true hq) e
    rw [hb, cond_false] at ht
    have := h.look t u ht
    simp only [Act.put]
    rw [← this]
    simp [Array.getD_eq_getD_getElem?, e]
theorem Fr.weaken {F G : List (Nat × Value)} {n : Nat} [HasD n] {a : Act} (h : Fr F n a) (hg : ∀ t v, fget G t = some v → fget F t = some v) : Fr G n a :=
  ⟨h.df, h.sz, fun t v ht => h.look t v (hg t v ht)⟩
/-- G says no more than F. -/
def covers (F : List (Nat × Value)) : List (Nat × Value) → Prop
  | [] => True
  | (t, v) :: G => fget F t = some v ∧ covers F G
theorem covers_spec {F : List (Nat × Value)} : ∀ {G : List (Nat × Value)}, covers F G → ∀ t v, fget G t = some v → fget F t = some v
  | [], _, _, _, h => by simp [fget] at h
  | (k, u) :: G, ⟨h1, h2⟩, t, v, h => by
    simp only [fget] at h
    cases hb : Nat.beq k t
    · rw [hb, cond_false] at h; exact covers_spec h2 t v h
    · rw [hb, cond_true] at h
      have := Nat.eq_of_beq_eq_true hb
      subst this
      rw [← h]; exact h1
section
variable {P : Program} {w0 : World} {S0 : FS} {n : Nat} {F : List (Nat × Value)} {L : List HP} [HasD n]
def Reach (w0 : World) (S0 : FS) (n : Nat) [HasD n] (F : List (Nat × Value)) (L : List HP) (R : Act → World → Prop) : Prop :=
  ∀ a w, Fr F n a → St w0 S0 L w → R a w
theorem Reach.weaken {G : List (Nat × Value)} {M : List HP} {R : Act → World → Prop} (is : List Nat) (hL : pick L is = some M) (hF : covers F G) (h : Reach w0 S0 n G M R) : Reach w0 S0 n F L R :=
  fun a w hf hs => h a w (hf.weaken (covers_spec hF)) (hs.pick is hL)
theorem c_seq {x y : Code} {Q : Exit → Act → World → Prop} (h : Reach w0 S0 n F L (x.wp P (Exit.then (y.wp P Q) Q))) : Reach w0 S0 n F L ((Code.seq x y).wp P Q) :=
  fun a w hf hs => wp_seq (h a w hf hs)
theorem c_skip {Q : Exit → Act → World → Prop} (h : Reach w0 S0 n F L (Q .normal)) : Reach w0 S0 n F L (Code.skip.wp P Q) :=
  fun a w hf hs => wp_skip (h a w hf hs)
theorem c_exit {id : Nat} {Q : Exit → Act → World → Prop} (h : Reach w0 S0 n F L (Q (.exit id))) : Reach w0 S0 n F L ((Code.exit id).wp P Q) :=
  fun a w hf hs => wp_exit (h a w hf hs)
theorem c_ret {Q : Exit → Act → World → Prop} (h : Reach w0 S0 n F L (Q .ret)) : Reach w0 S0 n F L (Code.ret.wp P Q) :=
  fun a w hf hs => wp_ret (h a w hf hs)
theorem c_block {id : Nat} {c : Code} {Q : Exit → Act → World → Prop} (h : Reach w0 S0 n F L (c.wp P (Exit.inBlock id Q))) : Reach w0 S0 n F L ((Code.block id c).wp P Q) :=
  fun a w hf hs => wp_block (h a w hf hs)
theorem c_cond {c : Operand} {x y : Code} {t : Bool} {Q : Exit → Act → World → Prop} (hc : ev F c = some (.bool t))
    (ht : t = true → Reach w0 S0 n F L (x.wp P Q)) (hf : t = false → Reach w0 S0 n F L (y.wp P Q)) : Reach w0 S0 n F L ((Code.cond c x y).wp P Q) :=
  fun a w hfr hs => by
    cases t with
    | true => exact wp_cond (hfr.eval hc) (ht rfl a w hfr hs)
    | false => exact wp_cond (hfr.eval hc) (hf rfl a w hfr hs)
theorem c_cond_p {c : Operand} {x y : Code} {p : Prop} [Decidable p] {Q : Exit → Act → World → Prop} (hc : ev F c = some (.bool (decide p)))
    (ht : p → Reach w0 S0 n F L (x.wp P Q)) (hf : ¬ p → Reach w0 S0 n F L (y.wp P Q)) : Reach w0 S0 n F L ((Code.cond c x y).wp P Q) :=
  c_cond hc (fun h => ht (of_decide_eq_true h)) (fun h => hf (of_decide_eq_false h))
theorem c_region {id : Nat} {l : List Oper} {Q : Exit → Act → World → Prop} (h : Reach w0 S0 n F L (wpList P l.toArray Q l)) : Reach w0 S0 n F L ((Code.region id l.toArray false).wp P Q) :=
  fun a w hf hs => wp_region_lit (h a w hf hs)
theorem k_then {K : Act → World → Prop} {Q : Exit → Act → World → Prop} (h : Reach w0 S0 n F L K) : Reach w0 S0 n F L (Exit.then K Q .normal) := fun a w hf hs => h a w hf hs
theorem k_then_ret {K : Act → World → Prop} {Q : Exit → Act → World → Prop} (h : Reach w0 S0 n F L (Q .ret)) : Reach w0 S0 n F L (Exit.then K Q .ret) := fun a w hf hs => h a w hf hs
theorem k_then_exit {id : Nat} {K : Act → World → Prop} {Q : Exit → Act → World → Prop} (h : Reach w0 S0 n F L (Q (.exit id))) : Reach w0 S0 n F L (Exit.then K Q (.exit id)) := fun a w hf hs => h a w hf hs
theorem k_blk {id : Nat} {Q : Exit → Act → World → Prop} (h : Reach w0 S0 n F L (Q .normal)) : Reach w0 S0 n F L (Exit.inBlock id Q .normal) := fun a w hf hs => h a w hf hs
theorem k_blk_ret {id : Nat} {Q : Exit → Act → World → Prop} (h : Reach w0 S0 n F L (Q .ret)) : Reach w0 S0 n F L (Exit.inBlock id Q .ret) := fun a w hf hs => h a w hf hs
theorem k_blk_eq {id : Nat} {Q : Exit → Act → World → Prop} (h : Reach w0 S0 n F L (Q .normal)) : Reach w0 S0 n F L (Exit.inBlock id Q (.exit id)) := fun a w hf hs => by simp only [Exit.inBlock, if_true]; exact h a w hf hs
theorem c_cond_t {c : Operand} {x y : Code} {Q : Exit → Act → World → Prop} (hc : ev F c = some (.bool true)) (h : Reach w0 S0 n F L (x.wp P Q)) : Reach w0 S0 n F L ((Code.cond c x y).wp P Q) :=
  c_cond hc (fun _ => h) (fun h => by simp at h)
theorem c_cond_f {c : Operand} {x y : Code} {Q : Exit → Act → World → Prop} (hc : ev F c = some (.bool false)) (h : Reach w0 S0 n F L (y.wp P Q)) : Reach w0 S0 n F L ((Code.cond c x y).wp P Q) :=
  c_cond hc (fun h => by simp at h) (fun _ => h)
/-- A loop: at each round's head the frame IF x and the entries IL x, for some x of which I holds; a measure goes down. -/
theorem c_loop {X : Type} {c : Code} {Q : Exit → Act → World → Prop} (I : X → Prop) (IF : X → List (Nat × Value)) (IL : X → List HP) (μ : X → Nat) (x0 : X) (is : List Nat) (h0 : I x0) (hL : pick L is = some (IL x0)) (hF : covers F (IF x0))
    (round : ∀ x, I x → Reach w0 S0 n (IF x) (IL x) (c.wp P (Exit.then (fun a w => ∃ y, I y ∧ μ y < μ x ∧ Fr (IF y) n a ∧ St w0 S0 (IL y) w) Q))) : Reach w0 S0 n F L ((Code.loop c).wp P Q) := by
  intro a w hf hs
  refine wp_loop_ghost (fun m a w => ∃ x, I x ∧ μ x = m ∧ Fr (IF x) n a ∧ St w0 S0 (IL x) w) (μ x0) ⟨x0, h0, rfl, hf.weaken (covers_spec hF), hs.pick is hL⟩ ?_
  rintro m a w ⟨x, hx, rfl, hf, hs⟩
  refine wp_mono (round x hx a w hf hs) ?_
  intro e a w h
  cases e <;> first | exact h | (obtain ⟨y, hi, hy, hf, hs⟩ := h; exact ⟨μ y, hy, y, hi, rfl, hf, hs⟩)
/-- A round's end. -/
theorem c_round {X : Type} {I : X → Prop} {IF : X → List (Nat × Value)} {IL : X → List HP} {μ : X → Nat} {m0 : Nat} (y : X) (is : List Nat) (hL : pick L is = some (IL y)) (hF : covers F (IF y)) (hI : I y) (hμ : μ y < m0) :
    Reach w0 S0 n F L (fun a w => ∃ y, I y ∧ μ y < m0 ∧ Fr (IF y) n a ∧ St w0 S0 (IL y) w) :=
  fun _ _ hf hs => ⟨y, hI, hμ, hf.weaken (covers_spec hF), hs.pick is hL⟩
end
end Go.Sl
end
section
set_option linter.unusedVariables false
set_option linter.unusedSimpArgs false
namespace Go.Sl
open Go Go.RowKit
class SlTy (P : Program) (t : TypeId) (e : outParam TypeId) (z : outParam Value) (sz bytes : outParam Nat) : Prop where
  u : P.underlying t = some (.slice e)
  info : (P.info? e).map (fun i => (i.zero, i.size, i.bytes)) = some (some z, sz, bytes)
  size : ∀ w, (sizeOf e).run P w = .ok sz w
  zs : z.cells.size = sz
  pos : 0 < sz
  bpos : 0 < bytes
class ScTy (P : Program) (t : TypeId) : Prop where
  agg : ∀ w, (isAgg t).run P w = .ok false w
  size : ∀ w, (sizeOf t).run P w = .ok 1 w
class AgTy (P : Program) (t : TypeId) (k : outParam Nat) : Prop where
  agg : ∀ w, (isAgg t).run P w = .ok true w
  size : ∀ w, (sizeOf t).run P w = .ok k w
class FdTy (P : Program) (t : TypeId) (i : Nat) (off k : outParam Nat) (ag : outParam Bool) : Prop where
  ex : ∃ (fs : Array Field) (fd : Field), P.underlying t = some (.struct fs) ∧ fs[i]? = some fd ∧ fd.offset = off ∧ (∀ w, (sizeOf fd.type).run P w = .ok (k + 1) w) ∧ (∀ w, (isAgg fd.type).run P w = .ok ag w)
class ZrTy (P : Program) (t : TypeId) (z : outParam Value) : Prop where
  z : ∀ w, (zeroValue t).run P w = .ok z w
class StTy (P : Program) (t : TypeId) : Prop where
  u : P.underlying t = some .string
class ArTy (P : Program) (t : TypeId) (len : outParam Nat) (e : outParam TypeId) (sz : outParam Nat) : Prop where
  u : P.underlying t = some (.array len e)
  size : ∀ w, (sizeOf e).run P w = .ok sz w
class MpTy (P : Program) (t : TypeId) (k e : outParam TypeId) : Prop where
  u : P.underlying t = some (.map k e)
class FnTy (P : Program) (f : FuncId) : Prop where
  c : ∀ (args : Array Value) w, (callFunc f args).run P w = .ok (.enter f args) w
section
variable {P : Program} {w0 : World} {S0 : FS} {n : Nat} {F : List (Nat × Value)} {L : List HP} {o : Oper} {rest : List Oper} {ops : Array Oper} {Q : Exit → Act → World → Prop} {d : Nat} {v : Value} [HasD n]
/-- The operation yields v, in every world of the class, and leaves a world of the class. -/
def Q1 (P : Program) (w0 : World) (S0 : FS) (n : Nat) [HasD n] (F : List (Nat × Value)) (L : List HP) (o : Oper) (v : Value) : Prop :=
  ∀ a, Fr F n a → ∀ w, St w0 S0 L w → o.quietAt P a (St w0 S0 L) w v
/-- It yields v and leaves the very world. -/
def R1 (P : Program) (w0 : World) (S0 : FS) (n : Nat) [HasD n] (F : List (Nat × Value)) (L : List HP) (o : Oper) (v : Value) : Prop :=
  ∀ a, Fr F n a → ∀ w, St w0 S0 L w → (execOp a.eval o).run P w = .ok (.value v) w
theorem R1.q (h : R1 P w0 S0 n F L o v) : Q1 P w0 S0 n F L o v := by
  intro a hf w hs
  unfold Oper.quietAt
  rw [h a hf w hs]
  exact ⟨rfl, rfl⟩
theorem q_of_run (h : ∀ a, Fr F n a → ∀ w, St w0 S0 L w → (execOp a.eval o).run P w = .ok (.value v) w) : R1 P w0 S0 n F L o v := h
theorem q_of_pure (h : ∀ a, Fr F n a → ∀ w, (execOp a.eval o).run P w = .ok (.value v) w) : R1 P w0 S0 n F L o v :=
  q_of_run fun a hf w _ => h a hf w
/-- A quiet operation in a region that draws nothing. -/
theorem s_q (hg : o.guard = none) (hd : o.dst = some d) (hn : Nat.blt d n = true) (hq : Q1 P w0 S0 n F L o v) (h : Reach w0 S0 n ((d, v) :: F) L (wpList P ops Q rest)) : Reach w0 S0 n F L (wpList P ops Q (o :: rest)) := by
  intro a w hf hs
  refine wpList_plain hg fun K hK => ?_
  refine Oper.wp_of_quiet (C := St w0 S0 L) (K := fun a' => a' = a.put o.dst v) hs (fun a' w' hs' e => ?_) ⟨v, fun w hs => hq a hf w hs, rfl⟩
  subst e
  exact hK _ _ (h _ _ (by rw [hd]; exact hf.put hn) hs')
theorem s_nil (h : Reach w0 S0 n F L (Q .normal)) : Reach w0 S0 n F L (wpList P ops Q []) := h
/-- Is the operation wanted, by its guard? -/
def gslot (ops : Array Oper) (o : Oper) : Option (Nat × Bool) := match o.guard with
  | none => none
  | some (j, want) => match ops[j]? with
    | some oj => match oj.dst with
      | some t => some (t, want)
      | none => none
    | none => none
theorem wanted_of {a : Act} {t : Nat} {want b : Bool} (hf : Fr F n a) (hg : gslot ops o = some (t, want)) (ht : fget F t = some (.bool b)) :
    Region.wanted o (yielded ops a.tmps) = (b == want) := by
  unfold gslot at hg
  cases hgd : o.guard with
  | none => simp [hgd] at hg
  | some p =>
    obtain ⟨j, w'⟩ := p
    simp only [hgd] at hg
    cases hj : ops[j]? with
    | none => simp [hj] at hg
    | some oj =>
      simp only [hj] at hg
      cases hdst : oj.dst with
      | none => simp [hdst] at hg
      | some u =>
        simp only [hdst, Option.some.injEq, Prod.mk.injEq] at hg
        obtain ⟨rfl, rfl⟩ := hg
        have := hf.look u _ ht
        have hlt : u < a.tmps.size := by
          rcases Nat.lt_or_ge u a.tmps.size with h | h
          · exact h
          · simp [Array.getD_eq_getD_getElem?, Array.getElem?_eq_none h, undef] at this
        have h2 : a.tmps[u]? = some (.bool b) := by
          simp [Array.getD_eq_getD_getElem?, Array.getElem?_eq_getElem hlt] at this
          simp [Array.getElem?_eq_getElem hlt, this]
        simp [Region.wanted, hgd, yielded, hj, hdst, h2]
/-- a guard's value by which an operation is left out -/
def skips : Value → Bool → Bool
  | .bool b, w => !(b == w)
  | .tuple _, _ => true
  | _, _ => false
theorem unwanted_of {a : Act} {t : Nat} {want : Bool} {u : Value} (hf : Fr F n a) (hg : gslot ops o = some (t, want)) (ht : fget F t = some u) (hb : skips u want = true) :
    Region.wanted o (yielded ops a.tmps) = false := by
  cases u with
  | bool b =>
    rw [wanted_of hf hg ht]
    simpa [skips] using hb
  | tuple vs =>
    unfold gslot at hg
    cases hgd : o.guard with
    | none => simp [hgd] at hg
    | some p =>
      obtain ⟨j, w'⟩ := p
      simp only [hgd] at hg
      cases hj : ops[j]? with
      | none => simp [hj] at hg
      | some oj =>
        simp only [hj] at hg
        cases hdst : oj.dst with
        | none => simp [hdst] at hg
        | some x =>
          simp only [hdst, Option.some.injEq, Prod.mk.injEq] at hg
          obtain ⟨rfl, rfl⟩ := hg
          have := hf.look x _ ht
          have h2 : a.tmps[x]? = none ∨ a.tmps[x]? = some (.tuple vs) := by
            rcases Nat.lt_or_ge x a.tmps.size with h | h
            · right
              simp [Array.getD_eq_getD_getElem?, Array.getElem?_eq_getElem h] at this
              simp [Array.getElem?_eq_getElem h, this]
            · exact .inl (Array.getElem?_eq_none h)
          rcases h2 with h2 | h2 <;> simp [Region.wanted, hgd, yielded, hj, hdst, h2]
  | _ => simp [skips] at hb
/-- A guarded operation that is wanted: as one without a guard. -/
theorem s_want {t : Nat} {want : Bool} (hg : gslot ops o = some (t, want)) (ht : fget F t = some (.bool want)) (hd : o.dst = some d) (hn : Nat.blt d n = true) (hq : Q1 P w0 S0 n F L o v) (h : Reach w0 S0 n ((d, v) :: F) L (wpList P ops Q rest)) : Reach w0 S0 n F L (wpList P ops Q (o :: rest)) := by
  intro a w hf hs
  refine wpList_step fun K hK => ?_
  rw [if_pos (by rw [wanted_of hf hg ht]; simp)]
  refine Oper.wp_of_quiet (C := St w0 S0 L) (K := fun a' => a' = a.put o.dst v) hs (fun a' w' hs' e => ?_) ⟨v, fun w hs => hq a hf w hs, rfl⟩
  subst e
  exact hK _ _ (h _ _ (by rw [hd]; exact hf.put hn) hs')
theorem s_skip {t : Nat} {want : Bool} {u0 : Value} (hg : gslot ops o = some (t, want)) (ht : fget F t = some u0) (hb : skips u0 want = true) (hd : o.dst = some d) (hn : Nat.blt d n = true) (h : Reach w0 S0 n ((d, undef) :: F) L (wpList P ops Q rest)) : Reach w0 S0 n F L (wpList P ops Q (o :: rest)) := by
  intro a w hf hs
  refine wpList_step fun K hK => ?_
  rw [if_neg (by rw [unwanted_of hf hg ht hb]; simp)]
  exact hK _ _ (h _ _ (by rw [hd]; exact hf.put hn) hs)
theorem Fr.known {t : Nat} {b c : Bool} {a : Act} (hf : Fr F n a) (ht : fget F t = some (.bool b)) (e : b = c) : Fr ((t, .bool c) :: F) n a := by
  subst e
  refine ⟨hf.df, hf.sz, fun u v hu => ?_⟩
  simp only [fget] at hu
  cases hb : Nat.beq t u
  · rw [hb, cond_false] at hu; exact hf.look u v hu
  · rw [hb, cond_true] at hu
    have := Nat.eq_of_beq_eq_true hb
    subst this
    exact hf.look _ _ (ht.trans hu)
/-- A guard that is not decided: both ways. -/
theorem s_case {t : Nat} {want : Bool} {p : Prop} [Decidable p] (hg : gslot ops o = some (t, want)) (ht : fget F t = some (.bool (decide p)))
    (h1 : p → Reach w0 S0 n ((t, .bool true) :: F) L (wpList P ops Q (o :: rest))) (h2 : ¬ p → Reach w0 S0 n ((t, .bool false) :: F) L (wpList P ops Q (o :: rest))) : Reach w0 S0 n F L (wpList P ops Q (o :: rest)) := by
  intro a w hf hs
  by_cases hp : p
  · exact h1 hp a w (hf.known ht (decide_eq_true hp)) hs
  · exact h2 hp a w (hf.known ht (decide_eq_false hp)) hs
def Shp (v : Value) (m : Nat) : Prop := m ≤ maxLen ∧ ((v = .slice none 0 0 ∧ m = 0) ∨ (∃ g off cap, v = .slice (some ⟨g, off, none⟩) m cap ∧ m ≤ cap ∧ cap ≤ maxLen) ∨ ((∃ a, v = .slice (some a) 0 0) ∧ m = 0))
/-- The address of cell k of a slice. -/
def pv (v : Value) (k : Nat) : Value := match v with
  | .slice (some a) _ _ => .pointer (some ⟨a.block, a.off + k, none⟩)
  | _ => .pointer none
theorem q_move {x : Operand} (ho : o.op = .move x) (hx : ev F x = some v) : R1 P w0 S0 n F L o v :=
  q_of_pure fun a hf w => by simp [execOp, ho, hf.eval hx]
theorem q_assign {x : Operand} (ho : o.op = .assign x) (hx : ev F x = some v) : R1 P w0 S0 n F L o v :=
  q_of_pure fun a hf w => by simp [execOp, ho, hf.eval hx]
theorem q_pick_t {c x y : Operand} (ho : o.op = .pick c x y) (hc : ev F c = some (.bool true)) (hx : ev F x = some v) : R1 P w0 S0 n F L o v :=
  q_of_pure fun a hf w => by simp [execOp, ho, hf.eval hc, hf.eval hx, asBool]
theorem q_pick_f {c x y : Operand} (ho : o.op = .pick c x y) (hc : ev F c = some (.bool false)) (hx : ev F y = some v) : R1 P w0 S0 n F L o v :=
  q_of_pure fun a hf w => by simp [execOp, ho, hf.eval hc, hf.eval hx, asBool]
section ints
variable {t t' : TypeId} {x y : Operand} {k : IntKind} {i j : Int}
theorem q_lss (ho : o.op = .binOp .lss t x y t') (hx : ev F x = some (.int k i)) (hy : ev F y = some (.int k j)) : R1 P w0 S0 n F L o (.bool (decide (i < j))) :=
  q_of_pure fun a hf w => by simp [execOp, ho, hf.eval hx, hf.eval hy, eqGuard, binOp, Op.intCmp]
theorem q_leq (ho : o.op = .binOp .leq t x y t') (hx : ev F x = some (.int k i)) (hy : ev F y = some (.int k j)) : R1 P w0 S0 n F L o (.bool (decide (i ≤ j))) :=
  q_of_pure fun a hf w => by simp [execOp, ho, hf.eval hx, hf.eval hy, eqGuard, binOp, Op.intCmp]
theorem q_gtr (ho : o.op = .binOp .gtr t x y t') (hx : ev F x = some (.int k i)) (hy : ev F y = some (.int k j)) : R1 P w0 S0 n F L o (.bool (decide (j < i))) :=
  q_of_pure fun a hf w => by simp [execOp, ho, hf.eval hx, hf.eval hy, eqGuard, binOp, Op.intCmp]
theorem q_geq (ho : o.op = .binOp .geq t x y t') (hx : ev F x = some (.int k i)) (hy : ev F y = some (.int k j)) : R1 P w0 S0 n F L o (.bool (decide (j ≤ i))) :=
  q_of_pure fun a hf w => by simp [execOp, ho, hf.eval hx, hf.eval hy, eqGuard, binOp, Op.intCmp]
theorem q_eql (ho : o.op = .binOp .eql t x y t') (hx : ev F x = some (.int k i)) (hy : ev F y = some (.int k j)) : R1 P w0 S0 n F L o (.bool (decide (i = j))) :=
  q_of_pure fun a hf w => by
    simp only [execOp, ho, hf.eval hx, hf.eval hy, eqGuard, binOp, Op.intCmp]
    by_cases h : i = j <;> simp [h]
theorem q_neq (ho : o.op = .binOp .neq t x y t') (hx : ev F x = some (.int k i)) (hy : ev F y = some (.int k j)) : R1 P w0 S0 n F L o (.bool (decide (i ≠ j))) :=
  q_of_pure fun a hf w => by
    simp only [execOp, ho, hf.eval hx, hf.eval hy, eqGuard, binOp, Op.intCmp]
    by_cases h : i = j <;> simp [h]
theorem wrap_id (h : k.min ≤ i ∧ i ≤ k.max) : k.wrap i = i := by
  obtain ⟨h1, h2⟩ := h
  cases k <;> simp [IntKind.wrap, IntKind.min, IntKind.max, IntKind.signed, IntKind.bits] at * <;> omega
theorem q_addw (ho : o.op = .binOp .add t x y t') (hx : ev F x = some (.int k i)) (hy : ev F y = some (.int k j)) : R1 P w0 S0 n F L o (.int k (k.wrap (i + j))) :=
  q_of_pure fun a hf w => by simp [execOp, ho, hf.eval hx, hf.eval hy, eqGuard, binOp, Op.intArith]
theorem q_subw (ho : o.op = .binOp .sub t x y t') (hx : ev F x = some (.int k i)) (hy : ev F y = some (.int k j)) : R1 P w0 S0 n F L o (.int k (k.wrap (i - j))) :=
  q_of_pure fun a hf w => by simp [execOp, ho, hf.eval hx, hf.eval hy, eqGuard, binOp, Op.intArith]
theorem q_mulw (ho : o.op = .binOp .mul t x y t') (hx : ev F x = some (.int k i)) (hy : ev F y = some (.int k j)) : R1 P w0 S0 n F L o (.int k (k.wrap (i * j))) :=
  q_of_pure fun a hf w => by simp [execOp, ho, hf.eval hx, hf.eval hy, eqGuard, binOp, Op.intArith]
theorem q_add (ho : o.op = .binOp .add t x y t') (hx : ev F x = some (.int .i64 i)) (hy : ev F y = some (.int .i64 j)) (h : -9223372036854775808 ≤ i + j ∧ i + j ≤ 9223372036854775807) : R1 P w0 S0 n F L o (.int .i64 (i + j)) := by
  have := q_addw (P := P) (w0 := w0) (S0 := S0) (n := n) (L := L) ho hx hy
  rwa [wrap_id (k := .i64) (by simpa [IntKind.min, IntKind.max, IntKind.signed, IntKind.bits] using h)] at this
theorem q_sub (ho : o.op = .binOp .sub t x y t') (hx : ev F x = some (.int .i64 i)) (hy : ev F y = some (.int .i64 j)) (h : -9223372036854775808 ≤ i - j ∧ i - j ≤ 9223372036854775807) : R1 P w0 S0 n F L o (.int .i64 (i - j)) := by
  have := q_subw (P := P) (w0 := w0) (S0 := S0) (n := n) (L := L) ho hx hy
  rwa [wrap_id (k := .i64) (by simpa [IntKind.min, IntKind.max, IntKind.signed, IntKind.bits] using h)] at this
theorem q_mul (ho : o.op = .binOp .mul t x y t') (hx : ev F x = some (.int .i64 i)) (hy : ev F y = some (.int .i64 j)) (h : -9223372036854775808 ≤ i * j ∧ i * j ≤ 9223372036854775807) : R1 P w0 S0 n F L o (.int .i64 (i * j)) := by
  have := q_mulw (P := P) (w0 := w0) (S0 := S0) (n := n) (L := L) ho hx hy
  rwa [wrap_id (k := .i64) (by simpa [IntKind.min, IntKind.max, IntKind.signed, IntKind.bits] using h)] at this
theorem q_min {ty : Array TypeId} (ho : o.op = .call { callee := .builtin .min, args := #[x, y], argTypes := ty }) (hx : ev F x = some (.int k i)) (hy : ev F y = some (.int k j)) : R1 P w0 S0 n F L o (.int k (min i j)) :=
  q_of_pure fun a hf w => by
    have e : min i j = if j < i then j else i := by by_cases h : j < i <;> simp [h] <;> omega
    simp [execOp, ho, hf.eval hx, hf.eval hy, resolve, invoke, builtin, Builtin.min_, Builtin.min2, List.foldlM_cons, List.foldlM_nil, e]
theorem q_max {ty : Array TypeId} (ho : o.op = .call { callee := .builtin .max, args := #[x, y], argTypes := ty }) (hx : ev F x = some (.int k i)) (hy : ev F y = some (.int k j)) : R1 P w0 S0 n F L o (.int k (max i j)) :=
  q_of_pure fun a hf w => by
    have e : max i j = if i < j then j else i := by by_cases h : i < j <;> simp [h] <;> omega
    simp [execOp, ho, hf.eval hx, hf.eval hy, resolve, invoke, builtin, Builtin.max_, Builtin.max2, List.foldlM_cons, List.foldlM_nil, e]
theorem q_not {x : Operand} {b : Bool} (ho : o.op = .unOp .not t x) (hx : ev F x = some (.bool b)) : R1 P w0 S0 n F L o (.bool (!b)) :=
  q_of_pure fun a hf w => by simp [execOp, ho, hf.eval hx, Op.unary]
theorem q_neg {x : Operand} (ho : o.op = .unOp .neg t x) (hx : ev F x = some (.int k i)) : R1 P w0 S0 n F L o (.int k (k.wrap (-i))) :=
  q_of_pure fun a hf w => by simp [execOp, ho, hf.eval hx, Op.unary, Op.intArith]
end ints
theorem run_under {t : TypeId} {u : TypeDesc} (ht : P.underlying t = some u) (w : World) : (underlying t).run P w = .ok u w := run_underlying ht w
theorem q_len {x : Operand} {t e : TypeId} {s z : Value} {m sz bs : Nat} (ho : o.op = .call { callee := .builtin .len, args := #[x], argTypes := #[t] }) (hx : ev F x = some s) (hs : Shp s m) [T : SlTy P t e z sz bs] : R1 P w0 S0 n F L o (.int .i64 m) :=
  q_of_pure fun a hf w => by
    rcases hs.2 with ⟨rfl, rfl⟩ | ⟨g, off, cap, rfl, _⟩ | ⟨⟨a0, rfl⟩, rfl⟩ <;> simp [execOp, ho, hf.eval hx, resolve, invoke, builtin, Builtin.len_, run_under T.u, goInt]
theorem q_lens {x : Operand} {t : TypeId} {s : ByteArray} (ho : o.op = .call { callee := .builtin .len, args := #[x], argTypes := #[t] }) (hx : ev F x = some (.string s)) [T : StTy P t] : R1 P w0 S0 n F L o (.int .i64 s.size) :=
  q_of_pure fun a hf w => by simp [execOp, ho, hf.eval hx, resolve, invoke, builtin, Builtin.len_, run_under T.u, goInt]
theorem q_idxi {x y : Operand} {t e : TypeId} {s z : Value} {m sz bs : Nat} {k : IntKind} {i : Int} (ho : o.op = .indexAddr t x y) (hx : ev F x = some s) (hy : ev F y = some (.int k i)) (hs : Shp s m) (hi : 0 ≤ i ∧ i < (m : Int)) [T : SlTy P t e z sz bs] : R1 P w0 S0 n F L o (pv s (i.toNat * sz)) :=
  q_of_pure fun a hf w => by
    rcases hs.2 with ⟨rfl, rfl⟩ | ⟨g, off, cap, rfl, _⟩ | ⟨_, rfl⟩
    rotate_left 2
    · omega
    · omega
    · simp [execOp, ho, hf.eval hx, hf.eval hy, Instr.indexAt, asIntOf, run_under T.u, T.size, hi, pv, Addr.add]
theorem q_idx {x y : Operand} {t e : TypeId} {s z : Value} {m sz bs i : Nat} {k : IntKind} (ho : o.op = .indexAddr t x y) (hx : ev F x = some s) (hy : ev F y = some (.int k (i : Int))) (hs : Shp s m) (hi : i < m) [T : SlTy P t e z sz bs] : R1 P w0 S0 n F L o (pv s (i * sz)) :=
  q_idxi (i := (i : Int)) ho hx hy hs ⟨by omega, by omega⟩
theorem q_extract {x : Operand} {i : Nat} {vs : Array Value} (ho : o.op = .extract x i) (hx : ev F x = some (.tuple vs)) (hv : vs[i]? = some v) : R1 P w0 S0 n F L o v :=
  q_of_pure fun a hf w => by simp [execOp, ho, hf.eval hx, Instr.extract, hv]
theorem q_fa {x : Operand} {t : TypeId} {i b off fo k : Nat} {ag : Bool} [T : FdTy P t i fo k ag] (ho : o.op = .fieldAddr t x i) (hx : ev F x = some (.pointer (some ⟨b, off, none⟩))) : R1 P w0 S0 n F L o (.pointer (some ⟨b, off + fo, none⟩)) :=
  q_of_pure fun a hf w => by
    obtain ⟨fs, fd, ht, hfd, rfl, hz, ha⟩ := T.ex
    simp [execOp, ho, hf.eval hx, Instr.fieldAt, run_under ht, hfd, Instr.sureAddr, fieldPlace, hz, Addr.add]
theorem q_fap {x : Operand} {t : TypeId} {i k m fo sz : Nat} {s : Value} {ag : Bool} [T : FdTy P t i fo sz ag] (ho : o.op = .fieldAddr t x i) (hx : ev F x = some (pv s k)) (hs : Shp s m) (hm : 0 < m) : R1 P w0 S0 n F L o (pv s (k + fo)) :=
  q_of_pure fun a hf w => by
    obtain ⟨fs, fd, ht, hfd, rfl, hz, ha⟩ := T.ex
    rcases hs.2 with ⟨rfl, rfl⟩ | ⟨g, off, cap, rfl, _⟩ | ⟨_, rfl⟩
    rotate_left 2
    · omega
    · omega
    · have hx' := hf.eval hx
      simp only [pv] at hx'
      simp [execOp, ho, hx', Instr.fieldAt, run_under ht, hfd, Instr.sureAddr, fieldPlace, hz, Addr.add, pv]
      split <;> simp_all [Nat.add_assoc]
end
end Go.Sl
end
section
set_option linter.unusedVariables false
set_option linter.unusedSimpArgs false
namespace Go.Sl
open Go Go.RowKit
def boxHP (b : Nat) (t : TypeId) (cs : List Value) : HP where
  sat S w := S b ∧ w.heap[b]? = some (.cells cs.toArray t (0, 0))
  mono h h' := ⟨h _ h'.1, h'.2⟩
  move h h' := ⟨h'.1, (h _ h'.1 (Array.getElem?_eq_some_iff.1 h'.2).1).trans h'.2⟩
  bound h := ⟨⟨h.1, (Array.getElem?_eq_some_iff.1 h.2).1⟩, h.2⟩
/-- A row of the call's own: m elements of sz cells each; from some cell of its block on, to the block's end. -/
def rowHP (v : Value) (e : TypeId) (sz m : Nat) (ys : List Value) : HP where
  sat S w := ys.length = m * sz ∧ ((v = .slice none 0 0 ∧ m = 0) ∨ (∃ g off cap cur, v = .slice (some ⟨g, off, none⟩) m cap ∧ S g ∧ w.heap[g]? = some (.cells cur e (0, 0)) ∧ m ≤ cap ∧ cap ≤ maxLen ∧ cur.size = off + cap * sz ∧ (cur.toList.drop off).take (m * sz) = ys) ∨ ((∃ a, v = .slice (some a) 0 0) ∧ m = 0))
  mono h h' := ⟨h'.1, h'.2.imp id (Or.imp (fun ⟨g, off, cap, cur, h1, h2, h3⟩ => ⟨g, off, cap, cur, h1, h _ h2, h3⟩) id)⟩
  move h h' := ⟨h'.1, h'.2.imp id (Or.imp (fun ⟨g, off, cap, cur, h1, h2, h3, h4⟩ => ⟨g, off, cap, cur, h1, h2, (h _ h2 (Array.getElem?_eq_some_iff.1 h3).1).trans h3, h4⟩) id)⟩
  bound h' := ⟨h'.1, h'.2.imp id (Or.imp (fun ⟨g, off, cap, cur, h1, h2, h3, h4⟩ => ⟨g, off, cap, cur, h1, ⟨h2, (Array.getElem?_eq_some_iff.1 h3).1⟩, h3, h4⟩) id)⟩
theorem rowHP_shp {v : Value} {e : TypeId} {sz m : Nat} {ys : List Value} {S : FS} {w : World} (h : (rowHP v e sz m ys).sat S w) : Shp v m := by
  rcases h.2 with ⟨h1, rfl⟩ | ⟨g, off, cap, cur, h1, h2, h3, h4, h5, _⟩ | ⟨⟨a0, h1⟩, rfl⟩
  · exact ⟨by simp [maxLen], .inl ⟨h1, rfl⟩⟩
  · exact ⟨by omega, .inr (.inl ⟨g, off, cap, h1, h4, h5⟩)⟩
  · exact ⟨by simp [maxLen], .inr (.inr ⟨⟨a0, h1⟩, rfl⟩)⟩
/-- A row that is read. -/
def RdV (w : World) (v : Value) (ys : List Value) : Prop := ∀ j u, ys[j]? = some u → ∃ g off m cap, v = .slice (some ⟨g, off, none⟩) m cap ∧ w.cell? ⟨g, off + j, none⟩ = some u
theorem rowHP_rd {v : Value} {e : TypeId} {sz m : Nat} {ys : List Value} {S : FS} {w : World} (h : (rowHP v e sz m ys).sat S w) : RdV w v ys := by
  intro j u hj
  rcases h.2 with ⟨h1, rfl⟩ | ⟨g, off, cap, cur, h1, h2, h3, h4, h5, h6, h7⟩ | ⟨_, rfl⟩
  · have := h.1; simp at this; subst this; simp at hj
  · refine ⟨g, off, m, cap, h1, ?_⟩
    have hlt : j < m * sz := by have := (List.getElem?_eq_some_iff.1 hj).1; rw [h.1] at this; exact this
    rw [← h7, List.getElem?_take, if_pos hlt, List.getElem?_drop] at hj
    simp only [World.cell?, h3]
    simpa using hj
  · have := h.1; simp at this; subst this; simp at hj
/-- .. whatever the call does. -/
def RO (w0 : World) (S0 : FS) (v : Value) (ys : List Value) : Prop := ∀ w S, Mod w0 S0 w S → RdV w v ys
theorem RO.of_rd {w0 : World} {v : Value} {ys : List Value} (h : RdV w0 v ys) : RO w0 (fun _ => False) v ys := by
  intro w S hm j u hj
  obtain ⟨g, off, m, cap, h1, h2⟩ := h j u hj
  exact ⟨g, off, m, cap, h1, by rw [hm.below.cell (p := ⟨g, off + j, none⟩) (World.block_lt_of_cell? w0 _ h2)]; exact h2⟩
section
variable {P : Program} {w0 : World} {S0 : FS} {n : Nat} {F : List (Nat × Value)} {L : List HP} {o : Oper} {rest : List Oper} {ops : Array Oper} {Q : Exit → Act → World → Prop} {d : Nat} {v : Value} [HasD n]
theorem St.mem {A : HP} {w : World} (h : St w0 S0 L w) (hA : A ∈ L) : ∃ S, A.sat S w := by
  obtain ⟨S, _, hl⟩ := h
  obtain ⟨i, hi, rfl⟩ := List.getElem_of_mem hA
  obtain ⟨S1, _, _, _, _, ha, _⟩ := sats_get (List.getElem?_eq_getElem hi) hl
  exact ⟨S1, ha⟩
theorem St.rd {w : World} {ys : List Value} (h : St w0 S0 L w) (hr : RO w0 S0 v ys) : RdV w v ys := by
  obtain ⟨S, hm, _⟩ := h
  exact hr w S hm
/-- what a row's shape is -/
theorem know_row {v : Value} {e : TypeId} {sz m : Nat} {ys : List Value} {R : Act → World → Prop} (hA : rowHP v e sz m ys ∈ L) (h : Shp v m → ys.length = m * sz → Reach w0 S0 n F L R) : Reach w0 S0 n F L R := by
  intro a w hf hs
  obtain ⟨S, hsat⟩ := hs.mem hA
  exact h (rowHP_shp hsat) hsat.1 a w hf hs
theorem run_load1 {t : TypeId} {ad : Addr} {u : Value} {w : World} (ha : ∀ w, (isAgg t).run P w = .ok false w) (hc : w.cell? ad = some u) : (Instr.loadAt t (.pointer (some ad))).run P w = .ok u w := by
  simp [Instr.loadAt, Instr.sureAddr, loadVar, ha, load, Sem.run, hc]
theorem q_ld_box {x : Operand} {t tb : TypeId} {b off : Nat} {cs : List Value} (ho : o.op = .load t x) (hx : ev F x = some (.pointer (some ⟨b, off, none⟩))) (hL : boxHP b tb cs ∈ L) (hc : cs[off]? = some v) [T : ScTy P t] : R1 P w0 S0 n F L o v :=
  q_of_run fun a hf w hs => by
    obtain ⟨S, hsat⟩ := hs.mem hL
    have hcell : w.cell? ⟨b, off, none⟩ = some v := by simp [World.cell?, hsat.2, hc]
    simp [execOp, ho, hf.eval hx, run_load1 T.agg hcell]
theorem loadCellsFrom_run {w : World} {a : Addr} : ∀ (k i : Nat) (acc : Array Value) (us : List Value), us.length = k → (∀ j u, us[j]? = some u → w.cell? (a.add (i + j)) = some u) → (loadCellsFrom a i k acc).run P w = .ok (acc ++ us.toArray) w
  | 0, i, acc, us, hl, h => by
    have : us = [] := List.eq_nil_of_length_eq_zero hl
    subst this
    simp [loadCellsFrom]
  | k + 1, i, acc, [], hl, h => by simp at hl
  | k + 1, i, acc, u :: us, hl, h => by
    have h0 : w.cell? (a.add i) = some u := h 0 u rfl
    have ih := loadCellsFrom_run (w := w) (a := a) k (i + 1) (acc.push u) us (by simpa using hl) (fun j u' hj => by have := h (j + 1) u' (by simpa using hj); rwa [show i + (j + 1) = i + 1 + j from by omega] at this)
    simp [loadCellsFrom, load, Sem.run, h0, ih]
theorem run_loadk {t : TypeId} {b off k : Nat} {us : List Value} {w : World} (ha : ∀ w, (isAgg t).run P w = .ok true w) (hz : ∀ w, (sizeOf t).run P w = .ok k w) (hl : us.length = k) (hc : ∀ j u, us[j]? = some u → w.cell? ⟨b, off + j, none⟩ = some u) : (Instr.loadAt t (.pointer (some ⟨b, off, none⟩))).run P w = .ok (.agg us.toArray) w := by
  have h := loadCellsFrom_run (P := P) (w := w) (a := ⟨b, off, none⟩) k 0 #[] us hl (fun j u hj => by
    have := hc j u hj
    by_cases h0 : j = 0
    · subst h0; simpa [Addr.add] using this
    · simpa [Addr.add, h0] using this)
  simp [Instr.loadAt, Instr.sureAddr, loadVar, ha, hz, loadCells, h]
/-- a struct out of a box -/
theorem q_ldk_box {x : Operand} {t tb : TypeId} {b off k : Nat} {cs us : List Value} (ho : o.op = .load t x) (hx : ev F x = some (.pointer (some ⟨b, off, none⟩))) (hL : boxHP b tb cs ∈ L) [T : AgTy P t k] (hl : us.length = k) (hc : (cs.drop off).take k = us) : R1 P w0 S0 n F L o (.agg us.toArray) :=
  q_of_run fun a hf w hs => by
    obtain ⟨S, hsat⟩ := hs.mem hL
    have := run_loadk (P := P) (b := b) (off := off) (w := w) T.agg T.size hl (fun j u hj => by
      have hlt := (List.getElem?_eq_some_iff.1 hj).1
      rw [← hc, List.getElem?_take, if_pos (by omega), List.getElem?_drop] at hj
      simp [World.cell?, hsat.2, hj])
    simp [execOp, ho, hf.eval hx, this]
theorem q_ld_of {x : Operand} {t : TypeId} {k : Nat} {s : Value} {ys : List Value} (hrd : ∀ w, St w0 S0 L w → RdV w s ys) (ho : o.op = .load t x) (hx : ev F x = some (pv s k)) (hc : ys[k]? = some v) [T : ScTy P t] : R1 P w0 S0 n F L o v :=
  q_of_run fun a hf w hs => by
    obtain ⟨g, off, m, cap, rfl, hcell⟩ := hrd w hs k v hc
    have hx' := hf.eval hx
    simp only [pv] at hx'
    simp [execOp, ho, hx', run_load1 T.agg hcell]
theorem q_ldk_of {x : Operand} {t : TypeId} {k sz : Nat} {s : Value} {ys us : List Value} (hrd : ∀ w, St w0 S0 L w → RdV w s ys) (ho : o.op = .load t x) (hx : ev F x = some (pv s k)) [T : AgTy P t sz] (h0 : 0 < sz) (hl : us.length = sz) (hc : (ys.drop k).take sz = us) : R1 P w0 S0 n F L o (.agg us.toArray) :=
  q_of_run fun a hf w hs => by
    have hj : ∀ j u, us[j]? = some u → ys[k + j]? = some u := fun j u hj => by
      have hlt := (List.getElem?_eq_some_iff.1 hj).1
      rwa [← hc, List.getElem?_take, if_pos (by omega), List.getElem?_drop] at hj
    obtain ⟨u0, hu0⟩ : ∃ u, us[0]? = some u := ⟨us[0]'(by omega), List.getElem?_eq_getElem _⟩
    obtain ⟨g, off, m, cap, rfl, _⟩ := hrd w hs _ _ (hj 0 u0 hu0)
    have := run_loadk (P := P) (b := g) (off := off + k) (w := w) T.agg T.size hl (fun j u hju => by
      obtain ⟨g', off', m', cap', e, hcell⟩ := hrd w hs _ _ (hj j u hju)
      simp only [Value.slice.injEq, Option.some.injEq, Addr.mk.injEq] at e
      obtain ⟨⟨rfl, rfl, _⟩, _, _⟩ := e
      rw [Nat.add_assoc]; exact hcell)
    have hx' := hf.eval hx
    simp only [pv] at hx'
    simp [execOp, ho, hx', this]
theorem q_ld_ro {x : Operand} {t : TypeId} {k : Nat} {s : Value} {ys : List Value} (hr : RO w0 S0 s ys) (ho : o.op = .load t x) (hx : ev F x = some (pv s k)) (hc : ys[k]? = some v) [T : ScTy P t] : R1 P w0 S0 n F L o v :=
  q_ld_of (fun _ hs => hs.rd hr) ho hx hc
theorem q_ld_row {x : Operand} {t e : TypeId} {k sz m : Nat} {s : Value} {ys : List Value} (ho : o.op = .load t x) (hx : ev F x = some (pv s k)) (hL : rowHP s e sz m ys ∈ L) (hc : ys[k]? = some v) [T : ScTy P t] : R1 P w0 S0 n F L o v :=
  q_ld_of (fun _ hs => (hs.mem hL).elim fun _ h => rowHP_rd h) ho hx hc
theorem q_ldk_row {x : Operand} {t e : TypeId} {k z sz m : Nat} {s : Value} {ys us : List Value} (ho : o.op = .load t x) (hx : ev F x = some (pv s k)) (hL : rowHP s e z m ys ∈ L) [T : AgTy P t sz] (h0 : 0 < sz) (hl : us.length = sz) (hc : (ys.drop k).take sz = us) : R1 P w0 S0 n F L o (.agg us.toArray) :=
  q_ldk_of (fun _ hs => (hs.mem hL).elim fun _ h => rowHP_rd h) ho hx h0 hl hc
theorem Reach.imp {R R' : Act → World → Prop} (hR : ∀ a w, R a w → R' a w) (h : Reach w0 S0 n F L R) : Reach w0 S0 n F L R' := fun a w hf hs => hR _ _ (h a w hf hs)
/-- An operation that yields a value and changes the world. -/
theorem l_loud {R : Act → World → Prop} (h : ∀ a, Fr F n a → ∀ w, St w0 S0 L w → ∃ u w', (execOp a.eval o).run P w = .ok u w' ∧ ((∃ v, u = .value v ∧ ∃ F' L', Fr F' n (a.put o.dst v) ∧ St w0 S0 L' w' ∧ Reach w0 S0 n F' L' R) ∨ (u = .skip ∧ ∃ L', o.dst = none ∧ St w0 S0 L' w' ∧ Reach w0 S0 n F L' R))) : Reach w0 S0 n F L (fun a w => o.wp P a w R Q) := by
  intro a w hf hs
  obtain ⟨u, w', hr, h⟩ := h a hf w hs
  unfold Oper.wp
  rw [hr]
  rcases h with ⟨v, rfl, F', L', hf', hs', hc⟩ | ⟨rfl, L', hd, hs', hc⟩
  · exact hc _ _ hf' hs'
  · rw [Oper.upon_skip, hd]
    exact hc _ _ hf hs'
/-- .. in a region that draws nothing -/
theorem s_of_l (hg : o.guard = none) (h : ∀ R : Act → World → Prop, (∀ a w, wpList P ops Q rest a w → R a w) → Reach w0 S0 n F L (fun a w => o.wp P a w R Q)) : Reach w0 S0 n F L (wpList P ops Q (o :: rest)) := by
  intro a w hf hs
  exact wpList_plain hg fun K hK => h K hK a w hf hs
theorem mod_alloc (w : World) (ob : Obj) : Mod w (fun _ => False) (w.alloc ob) (fun k => w.heap.size ≤ k) :=
  ⟨rfl, rfl, rfl, Nat.le_refl _, by simp, fun k hk _ => Below.heap_alloc w ob k hk, fun _ h => .inr h⟩
theorem run_newRow {e : TypeId} {cs : Array Value} {w : World} : (newRow e cs).run P w = .ok ⟨w.heap.size, 0, none⟩ (w.alloc (.cells cs e (0, 0))) := rfl
theorem l_box {R : Act → World → Prop} {x : Operand} {t : TypeId} {u : Value} (ho : o.op = .box t x) (hd : o.dst = some d) (hn : Nat.blt d n = true) (hx : ev F x = some u)
    (h : ∀ b, Reach w0 S0 n ((d, .pointer (some ⟨b, 0, none⟩)) :: F) (boxHP b t u.cells.toList :: L) R) : Reach w0 S0 n F L (fun a w => o.wp P a w R Q) := by
  refine l_loud fun a hf w hs => ⟨_, _, by simp only [execOp, ho, hf.eval hx, Instr.box, newVar, Sem.run_bind, run_newRow, Result.andThen_ok, Sem.run_pure]; rfl, .inl ⟨_, rfl, _, _, by rw [hd]; exact hf.put hn, ?_, h w.heap.size⟩⟩
  refine hs.push (M := [_]) (mod_alloc w _) ⟨fun k => w.heap.size ≤ k, fun _ => False, fun k hk => hk, fun k hk => hk.elim, fun k _ hk => hk, ⟨Nat.le_refl _, by simpa using heap_alloc_new w _⟩, trivial⟩
theorem l_alloc {R : Act → World → Prop} {t : TypeId} {z : Value} (ho : o.op = .alloc t) (hd : o.dst = some d) (hn : Nat.blt d n = true) [T : ZrTy P t z]
    (h : ∀ b, Reach w0 S0 n ((d, .pointer (some ⟨b, 0, none⟩)) :: F) (boxHP b t z.cells.toList :: L) R) : Reach w0 S0 n F L (fun a w => o.wp P a w R Q) := by
  refine l_loud fun a hf w hs => ⟨_, _, by simp only [execOp, ho, Instr.alloc, T.z, newVar, Sem.run_bind, run_newRow, Result.andThen_ok, Sem.run_pure]; rfl, .inl ⟨_, rfl, _, _, by rw [hd]; exact hf.put hn, ?_, h w.heap.size⟩⟩
  refine hs.push (M := [_]) (mod_alloc w _) ⟨fun k => w.heap.size ≤ k, fun _ => False, fun k hk => hk, fun k hk => hk.elim, fun k _ hk => hk, ⟨Nat.le_refl _, by simpa using heap_alloc_new w _⟩, trivial⟩
theorem setCell_blk {w : World} {b off : Nat} {cur : Array Value} {t : TypeId} {u : Value} (h : w.heap[b]? = some (.cells cur t (0, 0))) : (w.setCell ⟨b, off, none⟩ u).heap[b]? = some (.cells (cur.setIfInBounds off u) t (0, 0)) := by
  have hlt := (Array.getElem?_eq_some_iff.1 h).1
  have h' := (Array.getElem?_eq_some_iff.1 h).2
  simp [World.setCell, Array.getElem?_modify, Array.getElem?_eq_getElem hlt, h']
theorem mod_setCell {w : World} {S : FS} {b off : Nat} {u : Value} (hb : S b) : Mod w S (w.setCell ⟨b, off, none⟩ u) S :=
  ⟨rfl, rfl, rfl, Nat.le_refl _, by simp [World.setCell], fun k hk hn => Below.heap_setCell w _ u k (fun e => hn (by rw [e]; exact hb)), fun k h => .inl h⟩
def putL {α : Type} (cs : List α) (off : Nat) : List α → List α
  | [] => cs
  | u :: us => putL (cs.set off u) (off + 1) us
theorem putL_length {α : Type} : ∀ (us cs : List α) (off : Nat), (putL cs off us).length = cs.length
  | [], _, _ => rfl
  | u :: us, cs, off => by rw [putL, putL_length us, List.length_set]
def setCells (w : World) (b off : Nat) : List Value → World
  | [] => w
  | u :: us => setCells (w.setCell ⟨b, off, none⟩ u) b (off + 1) us
theorem setCells_blk {b : Nat} {t : TypeId} : ∀ (us : List Value) {w : World} {off : Nat} {cur : Array Value}, w.heap[b]? = some (.cells cur t (0, 0)) → ∃ cur' : Array Value, (setCells w b off us).heap[b]? = some (.cells cur' t (0, 0)) ∧ cur'.toList = putL cur.toList off us
  | [], w, off, cur, h => ⟨cur, h, rfl⟩
  | u :: us, w, off, cur, h => by
    obtain ⟨cur', h1, h2⟩ := setCells_blk us (off := off + 1) (setCell_blk (off := off) (u := u) h)
    exact ⟨cur', h1, by rw [h2, Array.toList_setIfInBounds, putL]⟩
theorem mod_setCells {S : FS} {b : Nat} (hb : S b) : ∀ (us : List Value) {w : World} {off : Nat}, Mod w S (setCells w b off us) S
  | [], w, off => Mod.refl w S
  | u :: us, w, off => (mod_setCell hb).trans (mod_setCells hb us)
theorem storeCells_run {b o : Nat} {e : TypeId} : ∀ (us : List Value) (i : Nat) (w : World) (cur : Array Value), (∀ u ∈ us, u.oneCell' = true) → w.heap[b]? = some (.cells cur e (0, 0)) → o + i + us.length ≤ cur.size → (storeCells ⟨b, o, none⟩ us i).run P w = .ok () (setCells w b (o + i) us)
  | [], i, w, cur, _, _, _ => by simp [storeCells, setCells]
  | u :: us, i, w, cur, h1, hh, hl => by
    have hlt : o + i < cur.size := by simp at hl; omega
    have hadd : (⟨b, o, none⟩ : Addr).add i = ⟨b, o + i, none⟩ := by
      by_cases h0 : i = 0
      · subst h0; rfl
      · simp [Addr.add, h0]
    have hc : w.cell? ⟨b, o + i, none⟩ = some cur[o + i] := by simp [World.cell?, hh, hlt]
    have hf : w.frozen? ⟨b, o + i, none⟩ = false := by simp [World.frozen?, hh]
    have hno : (store ⟨b, o + i, none⟩ u).run P w = .ok () (w.setCell ⟨b, o + i, none⟩ u) := by
      have hu := h1 u (by simp)
      cases u <;> first | (simp [Value.oneCell'] at hu; done) | (simp [store, Sem.run, hc, hf])
    have ih := storeCells_run (o := o) us (i + 1) (w.setCell ⟨b, o + i, none⟩ u) _ (fun u hu => h1 u (by simp [hu])) (setCell_blk hh) (by simp at hl ⊢; omega)
    simp only [storeCells, hadd, Sem.run_bind, hno, Result.andThen_ok, ih, setCells]
    rw [Nat.add_assoc]
theorem run_storek {t : TypeId} {b off sz : Nat} {u : Value} {us : List Value} {w : World} {cur : Array Value} {e : TypeId} (hz : ∀ w, (sizeOf t).run P w = .ok sz w) (hu : u.cells.toList = us) (hl : us.length = sz) (h1 : ∀ u ∈ us, u.oneCell' = true) (hh : w.heap[b]? = some (.cells cur e (0, 0))) (hlt : off + sz ≤ cur.size) : (Instr.storeAt t (.pointer (some ⟨b, off, none⟩)) u).run P w = .ok () (setCells w b off us) := by
  have hs : u.cells.size = sz := by rw [← hl, ← hu]; simp
  have := storeCells_run (P := P) (b := b) (o := off) us 0 w cur h1 hh (by omega)
  simp only [Instr.storeAt, Instr.sureAddr, storeVar, Sem.run_bind, Sem.run_pure, Result.andThen_ok, hz, hs, ne_eq, not_true_eq_false, if_false, hu, this, Nat.add_zero]
theorem one_cells {u : Value} (h : u.oneCell' = true) : u.cells.toList = [u] := by
  cases u <;> first | rfl | (simp [Value.oneCell'] at h)
theorem Shp.one {v : Value} {m : Nat} (h : Shp v m) : v.oneCell' = true := by
  rcases h.2 with ⟨rfl, _⟩ | ⟨g, off, cap, rfl, _⟩ | ⟨⟨a0, rfl⟩, _⟩ <;> rfl
/-- a store into a box -/
theorem l_stk_box {R : Act → World → Prop} {x y : Operand} {t tb : TypeId} {b off i sz : Nat} {u : Value} {us cs : List Value} (ho : o.op = .store t x y) (hd : o.dst = none) (hx : ev F x = some (.pointer (some ⟨b, off, none⟩))) (hy : ev F y = some u) (hu : u.cells.toList = us) (hl : us.length = sz) (h1 : ∀ u ∈ us, u.oneCell' = true) (hL : L[i]? = some (boxHP b tb cs)) (hlt : off + sz ≤ cs.length) (hz : ∀ w, (sizeOf t).run P w = .ok sz w)
    (h : Reach w0 S0 n F (L.set i (boxHP b tb (putL cs off us))) R) : Reach w0 S0 n F L (fun a w => o.wp P a w R Q) := by
  refine l_loud fun a hf w hs => ?_
  obtain ⟨S, hsat⟩ := hs.mem (List.mem_of_getElem? hL)
  refine ⟨_, _, by simp only [execOp, ho, hf.eval hx, hf.eval hy, Sem.run_bind, run_storek hz hu hl h1 hsat.2 (by simpa using hlt), Result.andThen_ok, Sem.run_pure]; rfl, .inr ⟨rfl, _, hd, ?_, h⟩⟩
  refine hs.step hL fun S hsat => ⟨S, mod_setCells hsat.1 us, hsat.1, ?_⟩
  obtain ⟨cur', h1, h2⟩ := setCells_blk us (off := off) hsat.2
  rw [h1, ← h2]
theorem l_st_box {R : Act → World → Prop} {x y : Operand} {t tb : TypeId} {b off i : Nat} {u : Value} {cs : List Value} (ho : o.op = .store t x y) (hd : o.dst = none) (hx : ev F x = some (.pointer (some ⟨b, off, none⟩))) (hy : ev F y = some u) (hu : u.oneCell' = true) (hL : L[i]? = some (boxHP b tb cs)) (hlt : off < cs.length) [T : ScTy P t]
    (h : Reach w0 S0 n F (L.set i (boxHP b tb (cs.set off u))) R) : Reach w0 S0 n F L (fun a w => o.wp P a w R Q) :=
  l_stk_box (us := [u]) ho hd hx hy (one_cells hu) rfl (by simpa using hu) hL hlt T.size h
theorem take_drop_set {α : Type} {l : List α} {off k m : Nat} {u : α} (hk : k < m) : ((l.set (off + k) u).drop off).take m = ((l.drop off).take m).set k u := by
  apply List.ext_getElem?
  intro j
  simp only [List.getElem?_take, List.getElem?_drop, List.getElem?_set, List.length_take, List.length_drop]
  by_cases hj : j < m
  · rw [if_pos hj]
    by_cases e : k = j
    · subst e
      by_cases h2 : off + k < l.length
      · rw [if_pos rfl, if_pos h2, if_pos rfl, if_pos (by omega)]
      · rw [if_pos rfl, if_neg h2, if_pos rfl, if_neg (by omega)]
    · rw [if_neg (by omega), if_neg e, if_pos hj]
  · rw [if_neg hj]
    rw [if_neg (by omega), if_neg hj]
theorem take_drop_putL {α : Type} : ∀ (us : List α) (l : List α) (off k m : Nat), k + us.length ≤ m → ((putL l (off + k) us).drop off).take m = putL ((l.drop off).take m) k us
  | [], _, _, _, _, _ => rfl
  | u :: us, l, off, k, m, h => by
    simp only [List.length_cons] at h
    rw [putL, Nat.add_assoc, take_drop_putL us _ off (k + 1) m (by omega), take_drop_set (by omega), putL]
/-- a store into a row -/
theorem l_stk_row {R : Act → World → Prop} {x y : Operand} {t e : TypeId} {k sz z m i : Nat} {s u : Value} {us ys : List Value} (ho : o.op = .store t x y) (hd : o.dst = none) (hx : ev F x = some (pv s k)) (hy : ev F y = some u) (hu : u.cells.toList = us) (hl : us.length = z) (h1 : ∀ u ∈ us, u.oneCell' = true) (hL : L[i]? = some (rowHP s e sz m ys)) (hz0 : 0 < z) (hlt : k + z ≤ m * sz) (hz : ∀ w, (sizeOf t).run P w = .ok z w)
    (h : Reach w0 S0 n F (L.set i (rowHP s e sz m (putL ys k us))) R) : Reach w0 S0 n F L (fun a w => o.wp P a w R Q) := by
  refine l_loud fun a hf w hs => ?_
  obtain ⟨S, hsat⟩ := hs.mem (List.mem_of_getElem? hL)
  rcases hsat.2 with ⟨q1, rfl⟩ | ⟨g, off, cap, cur, q1, q2, q3, q4, q5, q6, q7⟩ | ⟨_, rfl⟩
  · simp at hlt; omega
  · subst q1
    have hx' := hf.eval hx
    simp only [pv] at hx'
    have hkc : off + k + z ≤ cur.size := by have := Nat.mul_le_mul_right sz q4; omega
    refine ⟨_, _, by simp only [execOp, ho, hx', hf.eval hy, Sem.run_bind, run_storek hz hu hl h1 q3 hkc, Result.andThen_ok, Sem.run_pure]; rfl, .inr ⟨rfl, _, hd, ?_, h⟩⟩
    refine hs.step hL fun S hsat => ?_
    rcases hsat.2 with ⟨p1, rfl⟩ | ⟨g', off', cap', cur', p1, p2, p3, p4, p5, p6, p7⟩ | ⟨_, rfl⟩
    · simp at hlt; omega
    · simp only [Value.slice.injEq, Option.some.injEq, Addr.mk.injEq] at p1
      obtain ⟨⟨rfl, rfl, _⟩, _, rfl⟩ := p1
      obtain ⟨cur2, r1, r2⟩ := setCells_blk us (off := off + k) p3
      refine ⟨S, mod_setCells p2 us, by rw [putL_length]; exact hsat.1, .inr (.inl ⟨g, off, cap, cur2, rfl, p2, r1, p4, p5, ?_, ?_⟩)⟩
      · rw [← Array.length_toList, r2, putL_length, Array.length_toList, p6]
      · rw [r2, take_drop_putL us _ _ _ _ (by omega), p7]
    · simp at hlt; omega
  · simp at hlt; omega
theorem l_st_row {R : Act → World → Prop} {x y : Operand} {t e : TypeId} {k sz m i : Nat} {s u : Value} {ys : List Value} (ho : o.op = .store t x y) (hd : o.dst = none) (hx : ev F x = some (pv s k)) (hy : ev F y = some u) (hu : u.oneCell' = true) (hL : L[i]? = some (rowHP s e sz m ys)) (hlt : k < m * sz) [T : ScTy P t]
    (h : Reach w0 S0 n F (L.set i (rowHP s e sz m (ys.set k u))) R) : Reach w0 S0 n F L (fun a w => o.wp P a w R Q) :=
  l_stk_row (us := [u]) ho hd hx hy (one_cells hu) rfl (by simpa using hu) hL Nat.one_pos (Nat.succ_le_of_lt hlt) T.size h
theorem St.fresh {w w' : World} {b : Nat} {M : HP} (h : St w0 S0 L w) (hb : Mod w (fun _ => False) w' (fun k => w.heap.size ≤ k)) (hs : M.sat (fun k => w.heap.size ≤ k) w') : St w0 S0 (M :: L) w' :=
  h.push (M := [M]) hb ⟨fun k => w.heap.size ≤ k, fun _ => False, fun k hk => hk, fun k hk => hk.elim, fun k _ hk => hk, hs, trivial⟩
/-- a row out of parts: '[]T{a, b}', a variadic's box -/
theorem l_mkrow {R : Act → World → Prop} {parts : Array (Nat × Operand)} {t e : TypeId} {k sz : Nat} {cs : List Value} (ho : o.op = .buildSlice t k parts) (hd : o.dst = some d) (hn : Nat.blt d n = true)
    (hb : ∀ a, Fr F n a → ∀ w, (Instr.buildSlice t k (parts.map fun (i, x) => (i, a.eval x))).run P w = .ok (.slice (some ⟨w.heap.size, 0, none⟩) k k) (w.alloc (.cells cs.toArray e (0, 0)))) (hl : cs.length = k * sz) (hk : k ≤ maxLen)
    (h : ∀ v, Shp v k → Reach w0 S0 n ((d, v) :: F) (rowHP v e sz k cs :: L) R) : Reach w0 S0 n F L (fun a w => o.wp P a w R Q) := by
  refine l_loud fun a hf w hs => ?_
  have hshape : Shp (.slice (some ⟨w.heap.size, 0, none⟩) k k) k := ⟨hk, .inr (.inl ⟨_, _, _, rfl, Nat.le_refl _, hk⟩)⟩
  refine ⟨_, _, by simp only [execOp, ho, Sem.run_bind, hb a hf w, Result.andThen_ok, Sem.run_pure]; rfl, .inl ⟨_, rfl, _, _, by rw [hd]; exact hf.put hn, ?_, h _ hshape⟩⟩
  refine hs.fresh (b := 0) (mod_alloc w _) ⟨hl, .inr (.inl ⟨w.heap.size, 0, k, _, rfl, Nat.le_refl _, heap_alloc_new w _, Nat.le_refl _, hk, by simp [hl], ?_⟩)⟩
  rw [List.drop_zero]
  exact List.take_of_length_le (by simp [hl])
theorem run_append_mid {w : World} (t ty e : TypeId) (i : TypeInfo) (ht : P.underlying t = some (.slice e)) (hi : P.info? e = some i)
    (g off sLen sCap : Nat) (cur : Array Value) (hg : w.heap[g]? = some (.cells cur e (0, 0)))
    (a : Addr) (m c : Nat) (news : List Value) (hl : news.length = m * i.size) (hnews : ∀ j u, news[j]? = some u → w.cell? (a.add j) = some u) (h1 : ∀ u ∈ news, u.oneCell' = true)
    (hroom : sLen + m ≤ sCap) (hfit : off + sLen * i.size + news.length ≤ cur.size) :
    (Builtin.append_ #[t, t] ty #[.slice (some ⟨g, off, none⟩) sLen sCap, .slice (some a) m c]).run P w =
      .ok (.slice (some ⟨g, off, none⟩) (sLen + m) sCap) (w.setRow g (cur.toList.take (off + sLen * i.size) ++ news ++ cur.toList.drop (off + sLen * i.size + news.length)).toArray) := by
  have hf := run_firstCells_some (P := P) w i.size m a m c news hl hnews
  have hadd : (⟨g, off, none⟩ : Addr).add (sLen * i.size) = ⟨g, off + sLen * i.size, none⟩ := by
    by_cases h0 : sLen * i.size = 0
    · rw [h0]; rfl
    · simp [Addr.add, h0]
  have hst := run_storeCells_at P g (off + sLen * i.size) e news 0 cur w hg (by simpa using hfit) h1
  simp only [Nat.add_zero] at hst
  simp [Builtin.append_, run_underlying ht, sizeOf, typeInfo, hi, Builtin.lenOf, hroom, hf, hadd, hst]
theorem pv_addr {w : World} {a : Addr} {m c : Nat} {news : List Value} (h : RdV w (.slice (some a) m c) news) : ∀ j u, news[j]? = some u → w.cell? (a.add j) = some u := by
  intro j u hj
  obtain ⟨g, off, m', cap, e, hc⟩ := h j u hj
  simp only [Value.slice.injEq, Option.some.injEq] at e
  obtain ⟨rfl, _, _⟩ := e
  by_cases h0 : j = 0
  · subst h0; simpa [Addr.add] using hc
  · simpa [Addr.add, h0] using hc
theorem run_append_row {w : World} (t ty e : TypeId) (z : Value) (sz bytes : Nat) (ht : P.underlying t = some (.slice e)) (hinfo : (P.info? e).map (fun i => (i.zero, i.size, i.bytes)) = some (some z, sz, bytes)) (hzs : z.cells.size = sz) (hs0 : 0 < sz)
    {s x : Value} {m k : Nat} {ys news : List Value} {S : FS} (hsat : (rowHP s e sz m ys).sat S w) (hx : Shp x k) (hrd : RdV w x news) (hl : news.length = k * sz) (h1 : ∀ u ∈ news, u.oneCell' = true) (hb0 : 0 < bytes) (hb : (m + k) * bytes ≤ 140737488355328) :
    ∃ v' w' S', (Builtin.append_ #[t, t] ty #[s, x]).run P w = .ok v' w' ∧ (rowHP v' e sz (m + k) (ys ++ news)).sat S' w' ∧ Mod w S w' S' := by
  obtain ⟨i0, hi, hzz⟩ := Option.map_eq_some_iff.1 hinfo
  simp only [Prod.mk.injEq] at hzz
  obtain ⟨hz0, hz1, hz2⟩ := hzz
  subst hz1
  subst hz2
  have hmk : m + k ≤ 140737488355328 := Nat.le_trans (Nat.le_mul_of_pos_right _ hb0) hb
  have hlen : (ys ++ news).length = (m + k) * i0.size := by rw [List.length_append, hsat.1, hl, Nat.add_mul]
  -- x of no element
  by_cases hk : x = .slice none 0 0
  · subst hk
    have hk0 : k = 0 := by
      rcases hx.2 with ⟨_, h⟩ | ⟨_, _, _, h, _⟩ | ⟨_, h⟩
      · exact h
      · simp at h
      · exact h
    subst hk0
    have hn : news = [] := List.eq_nil_of_length_eq_zero (by simpa using hl)
    subst hn
    refine ⟨s, w, S, ?_, by simpa using hsat, Mod.refl w S⟩
    rcases hsat.2 with ⟨rfl, rfl⟩ | ⟨g, off, cap, cur, rfl, q2, q3, q4, q5, q6, q7⟩ | ⟨⟨a0, rfl⟩, rfl⟩
    · simp [Builtin.append_, run_underlying ht, sizeOf, typeInfo, hi, Builtin.lenOf, Builtin.firstCells]
    · simp [Builtin.append_, run_underlying ht, sizeOf, typeInfo, hi, Builtin.lenOf, Builtin.firstCells, q4, storeCells]
    · simp [Builtin.append_, run_underlying ht, sizeOf, typeInfo, hi, Builtin.lenOf, Builtin.firstCells, storeCells]
  · obtain ⟨a, c, rfl⟩ : ∃ a c, x = .slice (some a) k c := by
      rcases hx.2 with ⟨h, _⟩ | ⟨g, off, cap, h, _⟩ | ⟨⟨a0, h⟩, h0⟩
      · exact absurd h hk
      · exact ⟨_, _, h⟩
      · exact ⟨_, _, by rw [h0]; exact h⟩
    have hnews := pv_addr hrd
    have grown : ∀ (need old : Nat), need = m + k → ∀ pre : List Value, pre ++ news = ys ++ news → ∀ S,
        (rowHP (.slice (some ⟨w.heap.size, 0, none⟩) need (grownCap w need old e)) e i0.size (m + k) (ys ++ news)).sat (fun k => k = w.heap.size) (w.drew.alloc (.cells (pre.toArray ++ news.toArray ++ Builtin.zeroCells z.cells (grownCap w need old e - need)) e)) ∧ Mod w S (w.drew.alloc (.cells (pre.toArray ++ news.toArray ++ Builtin.zeroCells z.cells (grownCap w need old e - need)) e)) (fun k => k = w.heap.size) := by
      intro need old hn pre hpre S
      subst hn
      have hpre' : pre = ys := List.append_cancel_right hpre
      subst hpre'
      have hge := grownCap_ge w (m + k) old e
      have hcm : grownCap w (m + k) old e ≤ maxLen := grownCap_le_maxLen w (m + k) old e (by simp only [maxLen]; omega)
      refine ⟨⟨hlen, .inr (.inl ⟨w.heap.size, 0, _, _, rfl, rfl, heap_alloc_new w.drew _, hge, hcm, ?_, ?_⟩)⟩, ⟨rfl, rfl, rfl, Nat.le_succ _, by simp, fun k hk _ => Below.heap_alloc w.drew _ k hk, fun k hk => .inr (by rw [hk]; exact Nat.le_refl _)⟩⟩
      · simp only [Array.size_append, List.size_toArray, size_zeroCells, hzs, hsat.1, hl, ← Nat.add_mul, Nat.zero_add]
        congr 1
        omega
      · simp only [Array.toList_append, List.append_assoc, List.drop_zero]
        rw [← List.append_assoc, ← hlen]
        exact List.take_left
    rcases hsat.2 with ⟨rfl, rfl⟩ | ⟨g, off, cap, cur, rfl, q2, q3, q4, q5, q6, q7⟩ | ⟨⟨a0, rfl⟩, rfl⟩
    · have hy : ys = [] := List.eq_nil_of_length_eq_zero (by simpa using hsat.1)
      subst hy
      by_cases hk0 : k = 0
      · subst hk0
        have hn : news = [] := List.eq_nil_of_length_eq_zero (by simpa using hl)
        subst hn
        refine ⟨.slice none 0 0, w, S, ?_, by simpa using hsat, Mod.refl w S⟩
        simp [Builtin.append_, run_underlying ht, sizeOf, typeInfo, hi, Builtin.lenOf, Builtin.firstCells, loadCells, loadCellsFrom]
      · have hr := run_append_nil (P := P) w t ty e i0 z ht hi hz0 a k c news hl hnews (by omega) (by omega) (by have hb := hb; simp only [Nat.zero_add] at hb; omega)
        have hgr := grown k 0 (by omega) [] rfl S
        simp only [List.toArray, Array.empty_append] at hgr
        exact ⟨_, _, _, hr, by simpa using hgr.1, by simpa using hgr.2⟩
    · by_cases hroom : m + k ≤ cap
      · have hfit : off + m * i0.size + news.length ≤ cur.size := by
          have := Nat.mul_le_mul_right i0.size hroom
          rw [Nat.add_mul] at this
          rw [hl, q6]; omega
        have hr := run_append_mid (P := P) (w := w) t ty e i0 ht hi g off m cap cur q3 a k c news hl hnews h1 hroom hfit
        refine ⟨_, _, S, hr, ⟨hlen, .inr (.inl ⟨g, off, cap, _, rfl, q2, setRow_heap w g cur _ e _ q3, hroom, q5, ?_, ?_⟩)⟩, ⟨rfl, rfl, rfl, Nat.le_refl _, by simp [World.setRow], fun k _ hk => setRow_other w g k _ (fun e => hk (by rw [e]; exact q2)), fun k h => .inl h⟩⟩
        · simp only [List.size_toArray, List.length_append, List.length_take, List.length_drop, Array.length_toList]
          omega
        · simp only [List.append_assoc]
          rw [List.drop_append_of_le_length (by rw [List.length_take, Array.length_toList]; omega), List.drop_take, show off + m * i0.size - off = m * i0.size from by omega, q7, ← List.append_assoc, ← hlen]
          exact List.take_left
      · have holds : ∀ j u, ys[j]? = some u → w.cell? ((⟨g, off, none⟩ : Addr).add j) = some u := pv_addr (rowHP_rd hsat)
        have hr := run_append_grow (P := P) w t ty e i0 z ht hi hz0 ⟨g, off, none⟩ m cap ys hsat.1 holds a k c news hl hnews (by omega) (by omega) (growslice_fits (by omega) hb)
        have hgr := grown (m + k) cap rfl ys rfl S
        exact ⟨_, _, _, hr, hgr.1, hgr.2⟩
    · have hy : ys = [] := List.eq_nil_of_length_eq_zero (by simpa using hsat.1)
      subst hy
      by_cases hk0 : k = 0
      · subst hk0
        have hn : news = [] := List.eq_nil_of_length_eq_zero (by simpa using hl)
        subst hn
        refine ⟨.slice (some a0) 0 0, w, S, ?_, by simpa using hsat, Mod.refl w S⟩
        simp [Builtin.append_, run_underlying ht, sizeOf, typeInfo, hi, Builtin.lenOf, Builtin.firstCells, loadCells, loadCellsFrom, storeCells]
      · have hr := run_append_grow (P := P) w t ty e i0 z ht hi hz0 a0 0 0 [] hsat.1 (fun j u hj => by simp at hj) a k c news hl hnews (by omega) (by omega) (growslice_fits (by omega) hb)
        have hgr := grown (0 + k) 0 rfl [] rfl S
        exact ⟨_, _, _, hr, hgr.1, hgr.2⟩
/-- append(s, x...): s a row of one's own; x read -/
theorem l_append_of {R : Act → World → Prop} {x y : Operand} {t e : TypeId} {z s u : Value} {sz bytes m k i : Nat} {ys news : List Value} (hrd : ∀ w, St w0 S0 L w → RdV w u news) (ho : o.op = .call { callee := .builtin .append, args := #[x, y], argTypes := #[t, t] }) (hd : o.dst = some d) (hn : Nat.blt d n = true) (hx : ev F x = some s) (hy : ev F y = some u) [T : SlTy P t e z sz bytes]
    (hL : L[i]? = some (rowHP s e sz m ys)) (hu : Shp u k) (hl : news.length = k * sz) (h1 : ∀ u ∈ news, u.oneCell' = true) (hb : (m + k) * bytes ≤ 140737488355328)
    (h : ∀ v, Shp v (m + k) → Reach w0 S0 n ((d, v) :: F) (L.set i (rowHP v e sz (m + k) (ys ++ news))) R) : Reach w0 S0 n F L (fun a w => o.wp P a w R Q) := by
  refine l_loud fun a hf w hs => ?_
  obtain ⟨S, hsat⟩ := hs.mem (List.mem_of_getElem? hL)
  obtain ⟨v', w', S', hr, hsat', hm⟩ := run_append_row (P := P) (w := w) t o.type e z sz bytes T.u T.info T.zs T.pos hsat hu (hrd w hs) hl h1 T.bpos hb
  refine ⟨_, _, by simp only [execOp, ho, resolve, invoke, builtin, Sem.run_bind, Sem.run_pure, Result.andThen_ok, List.map_toArray, List.map_cons, List.map_nil, hf.eval hx, hf.eval hy, hr]; rfl, .inl ⟨_, rfl, _, _, by rw [hd]; exact hf.put hn, ?_, h v' (rowHP_shp hsat')⟩⟩
  refine hs.step hL fun S2 hsat2 => ?_
  obtain ⟨v2, w2, S2', hr2, hsat2', hm2⟩ := run_append_row (P := P) (w := w) t o.type e z sz bytes T.u T.info T.zs T.pos hsat2 hu (hrd w hs) hl h1 T.bpos hb
  rw [hr] at hr2
  obtain ⟨rfl, rfl⟩ : v' = v2 ∧ w' = w2 := by simpa using hr2
  exact ⟨S2', hm2, hsat2'⟩
end
end Go.Sl
end
section
set_option linter.unusedVariables false
set_option linter.unusedSimpArgs false
namespace Go.Sl
open Go Go.RowKit
/-- What a call comes to: it hands back v, and owns L', where G says so; it turned nothing but what it was lent. -/
def Post (w : World) (S : FS) (G : Value → List HP → Prop) (e : Ending) (w' : World) : Prop :=
  ∃ v L', G v L' ∧ e = .returned v ∧ ∃ S', Mod w S w' S' ∧ sats L' S' w'
/-- one value, nothing owned -/
def Just (v0 : Value) (v : Value) (L : List HP) : Prop := v = v0 ∧ L = []
def No : FS := fun _ => False
section
variable {P : Program} {w0 : World} {S0 : FS} {n : Nat} {F : List (Nat × Value)} {L : List HP} {o : Oper} {rest : List Oper} {ops : Array Oper} {Q : Exit → Act → World → Prop} {d : Nat} {v : Value} [HasD n]
theorem Post.imp {w : World} {S : FS} {G G' : Value → List HP → Prop} (h : ∀ v L, G v L → G' v L) : ∀ e w', Post w S G e w' → Post w S G' e w' :=
  fun _ _ ⟨v, L', g, r⟩ => ⟨v, L', h v L' g, r⟩
theorem ro_old {w : World} {ys : List Value} (hs : St w0 S0 L w) (hr : RO w0 S0 v ys) : RO w No v ys := by
  intro w' S' hm
  obtain ⟨S, hm0, _⟩ := hs
  refine hr w' (fun k => S k ∨ S' k) (hm0.trans ⟨hm.os, hm.tape, hm.output, hm.drawn, hm.size, fun k hk _ => hm.keep k hk (fun h => h), fun k hk => hk.imp id (fun h => (hm.new k h).elim (fun h => h.elim) id)⟩)
theorem RdV.keep {w w' : World} {ys : List Value} {v : Value} (h : RdV w v ys) (hb : Below w.heap.size w w') : RdV w' v ys := by
  intro j u hj
  obtain ⟨g, off, m, cap, e, hc⟩ := h j u hj
  exact ⟨g, off, m, cap, e, by rw [hb.cell (p := ⟨g, off + j, none⟩) (World.block_lt_of_cell? w _ hc)]; exact hc⟩
theorem ro_own {w : World} {e : TypeId} {sz m : Nat} {ys : List Value} (hs : St w0 S0 L w) (hL : rowHP v e sz m ys ∈ L) : RO w No v ys := by
  obtain ⟨S, hsat⟩ := hs.mem hL
  exact RO.of_rd (rowHP_rd hsat)
/-- A call of a Go function that is lent nothing. -/
theorem l_call0 {R : Act → World → Prop} {f : FuncId} {xs : Array Operand} {ts : Array TypeId} {vs : List Value} {G : Value → List HP → Prop} (ho : o.op = .call { callee := .value (.func f), args := xs, argTypes := ts }) (hd : o.dst = some d) (hn : Nat.blt d n = true) (hvs : xs.toList.map (ev F) = vs.map some) [T : FnTy P f]
    (hc : ∀ w, St w0 S0 L w → Calls P f vs.toArray w (Post w No G)) (h : ∀ v L', G v L' → Reach w0 S0 n ((d, v) :: F) (L' ++ L) R) : Reach w0 S0 n F L (fun a w => o.wp P a w R Q) := by
  intro a w hf hs
  have hargs : xs.map a.eval = vs.toArray := by
    have : ∀ (l : List Operand) (us : List Value), l.map (ev F) = us.map some → l.map a.eval = us := by
      intro l
      induction l with
      | nil => intro us hu; cases us with | nil => rfl | cons _ _ => simp at hu
      | cons x l ih =>
        intro us hu
        cases us with
        | nil => simp at hu
        | cons u us =>
          simp only [List.map_cons, List.cons.injEq] at hu ⊢
          exact ⟨hf.eval hu.1, ih us hu.2⟩
    obtain ⟨l⟩ := xs
    rw [List.map_toArray, this l vs hvs]
  have hr : (execOp a.eval o).run P w = .ok (.enter f vs.toArray) w := by
    have e : a.eval (.func f) = .func (.func f) #[] #[] := rfl
    simp only [execOp, ho, resolve, hargs, e, Deferred.ofValue, invoke, Sem.run_bind, Sem.run_pure, Result.andThen_ok, Array.append_empty, Array.empty_append, T.c]
  unfold Oper.wp
  rw [hr, Oper.upon_enter]
  refine (hc w hs).mono ?_
  rintro e w' ⟨u, L', g, rfl, S', hm, hl⟩
  refine h u L' g _ _ (by rw [hd]; exact hf.put hn) ?_
  have hn' : ∀ k, S' k → w.heap.size ≤ k := fun k hk => (hm.new k hk).elim (fun h => h.elim) id
  exact hs.push ⟨hm.os, hm.tape, hm.output, hm.drawn, hm.size, hm.keep, fun k hk => .inr hk⟩ (sats_mono hn' hl)
/-- The same, quiet: one value, nothing owned. -/
theorem q_call {f : FuncId} {xs : Array Operand} {ts : Array TypeId} {vs : List Value} {u : Value} (ho : o.op = .call { callee := .value (.func f), args := xs, argTypes := ts }) (hvs : xs.toList.map (ev F) = vs.map some) [T : FnTy P f]
    (hc : ∀ w, St w0 S0 L w → Calls P f vs.toArray w (Post w No (Just u))) : Q1 P w0 S0 n F L o u := by
  intro a hf w hs
  have hargs : xs.map a.eval = vs.toArray := by
    have : ∀ (l : List Operand) (us : List Value), l.map (ev F) = us.map some → l.map a.eval = us := by
      intro l
      induction l with
      | nil => intro us hu; cases us with | nil => rfl | cons _ _ => simp at hu
      | cons x l ih =>
        intro us hu
        cases us with
        | nil => simp at hu
        | cons u us =>
          simp only [List.map_cons, List.cons.injEq] at hu ⊢
          exact ⟨hf.eval hu.1, ih us hu.2⟩
    obtain ⟨l⟩ := xs
    rw [List.map_toArray, this l vs hvs]
  have hr : (execOp a.eval o).run P w = .ok (.enter f vs.toArray) w := by
    have e : a.eval (.func f) = .func (.func f) #[] #[] := rfl
    simp only [execOp, ho, resolve, hargs, e, Deferred.ofValue, invoke, Sem.run_bind, Sem.run_pure, Result.andThen_ok, Array.append_empty, Array.empty_append, T.c]
  unfold Oper.quietAt
  rw [hr]
  refine ⟨rfl, (hc w hs).mono ?_⟩
  rintro e w' ⟨u', L', ⟨rfl, rfl⟩, rfl, S', hm, _⟩
  exact ⟨rfl, hs.same hm.below hm.drawn⟩
def argsF : Nat → List Value → List (Nat × Value)
  | _, [] => []
  | i, v :: vs => (i, v) :: argsF (i + 1) vs
theorem argsF_get : ∀ (vs : List Value) (i t : Nat) (v : Value), fget (argsF i vs) t = some v → ∃ j, t = i + j ∧ vs[j]? = some v
  | [], _, _, _, h => by simp [argsF, fget] at h
  | u :: us, i, t, v, h => by
    simp only [argsF, fget] at h
    cases hb : Nat.beq i t
    · rw [hb, cond_false] at h
      obtain ⟨j, rfl, hj⟩ := argsF_get us (i + 1) t v h
      exact ⟨j + 1, by omega, by simpa using hj⟩
    · rw [hb, cond_true] at h
      have := Nat.eq_of_beq_eq_true hb
      subst this
      exact ⟨0, by omega, by simpa using h⟩
end
section
variable {P : Program} {w0 : World} {S0 : FS} {n : Nat} {F : List (Nat × Value)} {L : List HP} {o : Oper} {rest : List Oper} {ops : Array Oper} {Q : Exit → Act → World → Prop} {d : Nat} {v : Value}
theorem enter {f : FuncId} {fn : Func} {c : Code} {vs : List Value} {w : World} {S : FS} {G : Value → List HP → Prop} {L0 : List HP} (hf : P.funcs[f]? = some fn) (hb : fn.body = some c) (hn : fn.ntmps = n) (hl : Nat.ble vs.length n = true) (hL : sats L0 S w)
    (h : Reach w S n (argsF 0 vs) L0 (c.wp P (bodyPost P fn (Post w S G)))) : Calls P f vs.toArray w (Post w S G) := by
  refine calls_of_wp hf hb (h _ _ ⟨rfl, ?_, ?_⟩ (St.start hL))
  · have : vs.length ≤ n := by simpa using hl
    simp [hn]; omega
  · intro t u ht
    obtain ⟨j, rfl, hj⟩ := argsF_get vs 0 t u ht
    have hlt := (List.getElem?_eq_some_iff.1 hj).1
    simp only [Nat.zero_add, Array.getD_eq_getD_getElem?]
    rw [Array.getElem?_append_left (by simpa using hlt)]
    simp [hj]
theorem enter0 {f : FuncId} {fn : Func} {c : Code} {vs : List Value} {w : World} {G : Value → List HP → Prop} (hf : P.funcs[f]? = some fn) (hb : fn.body = some c) (hn : fn.ntmps = n) (hl : Nat.ble vs.length n = true)
    (h : Reach w No n (argsF 0 vs) [] (c.wp P (bodyPost P fn (Post w No G)))) : Calls P f vs.toArray w (Post w No G) :=
  enter hf hb hn hl (L0 := []) trivial h
/-- the end: one result that stands in a slot -/
theorem ret1 {fn : Func} {w : World} {S : FS} {G : Value → List HP → Prop} {t : Nat} (is : List Nat) {M : List HP} (hr : fn.results = #[.tmp t]) (ht : fget F t = some v) (hL : pick L is = some M) (hG : G v M) : Reach w S n F L (bodyPost P fn (Post w S G) .ret) := by
  intro a w' hf hs
  refine ⟨hf.df, v, ?_, v, M, hG, rfl, hs.pick is hL⟩
  rw [results_tmp hr, hf.look t v ht]
theorem ret0 {fn : Func} {w : World} {S : FS} {G : Value → List HP → Prop} (is : List Nat) {M : List HP} (hr : fn.results = #[]) (hL : pick L is = some M) (hG : G (.tuple #[]) M) : Reach w S n F L (bodyPost P fn (Post w S G) .normal) := by
  intro a w' hf hs
  exact ⟨hf.df, .tuple #[], results_none hr _ _ _, _, M, hG, rfl, hs.pick is hL⟩
end
section
variable {P : Program} {w0 : World} {S0 : FS} {n : Nat} {F : List (Nat × Value)} {L : List HP} {o : Oper} {rest : List Oper} {ops : Array Oper} {Q : Exit → Act → World → Prop} {d : Nat} {v : Value} [HasD n]
def RQ (w0 : World) (S0 : FS) (n : Nat) [HasD n] (F : List (Nat × Value)) (R : Act → Prop) : Prop := ∀ a, Fr F n a → R a
theorem c_draw {id : Nat} {l : List Oper} {Q : Exit → Act → World → Prop} (hm : P.follows .mixedOrders = true) (hB : Region.lexB .any l.toArray = true)
    (h : RQ w0 S0 n F (wpQuiet P l.toArray (St w0 S0 L) (fun a' => ∀ w', St w0 S0 L w' → Q .normal a' w') l)) : Reach w0 S0 n F L ((Code.region id l.toArray true).wp P Q) := by
  intro a w hf hs
  exact wp_region_quiet (C := St w0 S0 L) hm hB hs.drew (by simpa using h a hf)
theorem d_q {Qa : Act → Prop} (hg : o.guard = none) (hd : o.dst = some d) (hn : Nat.blt d n = true) (hq : Q1 P w0 S0 n F L o v) (h : RQ w0 S0 n ((d, v) :: F) (wpQuiet P ops (St w0 S0 L) Qa rest)) : RQ w0 S0 n F (wpQuiet P ops (St w0 S0 L) Qa (o :: rest)) := by
  intro a hf
  refine wpQuiet_step fun K hK => ?_
  rw [if_pos (by simp [Region.wanted, hg])]
  exact ⟨v, fun w hs => hq a hf w hs, hK _ (h _ (by rw [hd]; exact hf.put hn))⟩
theorem d_want {Qa : Act → Prop} {t : Nat} {want : Bool} (hg : gslot ops o = some (t, want)) (ht : fget F t = some (.bool want)) (hd : o.dst = some d) (hn : Nat.blt d n = true) (hq : Q1 P w0 S0 n F L o v) (h : RQ w0 S0 n ((d, v) :: F) (wpQuiet P ops (St w0 S0 L) Qa rest)) : RQ w0 S0 n F (wpQuiet P ops (St w0 S0 L) Qa (o :: rest)) := by
  intro a hf
  refine wpQuiet_step fun K hK => ?_
  rw [if_pos (by rw [wanted_of hf hg ht]; simp)]
  exact ⟨v, fun w hs => hq a hf w hs, hK _ (h _ (by rw [hd]; exact hf.put hn))⟩
theorem d_case {Qa : Act → Prop} {t : Nat} {want : Bool} {p : Prop} [Decidable p] (hg : gslot ops o = some (t, want)) (ht : fget F t = some (.bool (decide p)))
    (h1 : p → RQ w0 S0 n ((t, .bool true) :: F) (wpQuiet P ops (St w0 S0 L) Qa (o :: rest))) (h2 : ¬ p → RQ w0 S0 n ((t, .bool false) :: F) (wpQuiet P ops (St w0 S0 L) Qa (o :: rest))) : RQ w0 S0 n F (wpQuiet P ops (St w0 S0 L) Qa (o :: rest)) := by
  intro a hf
  by_cases hp : p
  · exact h1 hp a (hf.known ht (decide_eq_true hp))
  · exact h2 hp a (hf.known ht (decide_eq_false hp))
theorem d_nil {K : Exit → Act → World → Prop} (h : Reach w0 S0 n F L (K .normal)) : RQ w0 S0 n F (wpQuiet P ops (St w0 S0 L) (fun a' => ∀ w', St w0 S0 L w' → K .normal a' w') []) :=
  fun a hf w' hs => h a w' hf hs
end
end Go.Sl
end
section
set_option linter.unusedVariables false
set_option linter.unusedSimpArgs false
namespace Go.Sl
open Go Go.RowKit
def empHP : HP where
  sat _ _ := True
  mono _ h := h
  move _ h := h
  bound h := h
def starHP (Ks : List HP) : HP where
  sat S w := sats Ks S w
  mono := sats_mono
  move := sats_move
  bound := sats_bound
section
variable {P : Program} {w0 : World} {S0 : FS} {n : Nat} {F : List (Nat × Value)} {L Lk : List HP} {o : Oper} {rest : List Oper} {ops : Array Oper} {Q : Exit → Act → World → Prop} {d : Nat} {v : Value} {R : Act → World → Prop} [HasD n]
theorem St.take {w : World} {A : HP} {Ks : List HP} {i k : Nat} (hi : L[i]? = some (starHP Ks)) (hk : Ks[k]? = some A) (h : St w0 S0 L w) : St w0 S0 (A :: L.set i (starHP (Ks.set k empHP))) w := by
  obtain ⟨S, hm, hl⟩ := h
  obtain ⟨S1, S2, h1, h2, hd, ha, hl⟩ := sats_get hi hl
  obtain ⟨T1, T2, t1, t2, td, ta, tl⟩ := sats_get hk ha
  have hi' : i < L.length := (List.getElem?_eq_some_iff.1 hi).1
  have hk' : k < Ks.length := (List.getElem?_eq_some_iff.1 hk).1
  have hs := sats_put (A := empHP) (S1 := fun _ => False) hk' trivial tl (fun _ h => h.elim)
  have hs' := sats_put (A := starHP (Ks.set k empHP)) hi' hs hl (fun j hj hj2 => hd j (t2 j (hj.elim (fun h => h.elim) id)) hj2)
  refine ⟨S, hm, T1, _, fun j hj => h1 j (t1 j hj), ?_, ?_, ta, hs'⟩
  · rintro j ((hj | hj) | hj)
    · exact hj.elim
    · exact h1 j (t2 j hj)
    · exact h2 j hj
  · rintro j hj ((hj2 | hj2) | hj2)
    · exact hj2
    · exact td j hj hj2
    · exact hd j (t1 j hj) hj2
theorem St.give {w : World} {A : HP} {Ks : List HP} {i k : Nat} (hi : L[i]? = some (starHP Ks)) (hk : k < Ks.length) (h : St w0 S0 (A :: L) w) : St w0 S0 (L.set i (starHP (Ks.set k A))) w := by
  obtain ⟨S, hm, SA, SL, a1, a2, ad, hA, hl⟩ := h
  obtain ⟨S1, S2, h1, h2, hd, ha, hl⟩ := sats_get hi hl
  obtain ⟨T1, T2, t1, t2, td, ta, tl⟩ := sats_get (List.getElem?_eq_getElem hk) ha
  have hi' : i < L.length := (List.getElem?_eq_some_iff.1 hi).1
  have hs := sats_put (A := A) (S1 := SA) hk hA tl (fun j hj hj2 => ad j hj (h1 j (t2 j hj2)))
  have hs' := sats_put (A := starHP (Ks.set k A)) hi' hs hl (fun j hj hj2 => hj.elim (fun h => ad j h (h2 j hj2)) (fun h => hd j (t2 j h) hj2))
  refine ⟨S, hm, sats_mono ?_ hs'⟩
  rintro j ((hj | hj) | hj)
  · exact a1 j hj
  · exact a2 j (h1 j (t2 j hj))
  · exact a2 j (h2 j hj)
/-- a nil slice is owned at no cost -/
theorem sat_nil (e : TypeId) (sz : Nat) (w : World) (S : FS) : (rowHP (.slice none 0 0) e sz 0 []).sat S w := ⟨by simp, .inl ⟨rfl, rfl⟩⟩
theorem St.nil {w : World} (e : TypeId) (sz : Nat) (h : St w0 S0 L w) : St w0 S0 (rowHP (.slice none 0 0) e sz 0 [] :: L) w := by
  obtain ⟨S, hm, hl⟩ := h
  exact ⟨S, hm, fun _ => False, S, fun _ h => h.elim, fun _ h => h, fun _ h => h.elim, sat_nil e sz w _, hl⟩
theorem Reach.conv {M : List HP} (hM : ∀ w, St w0 S0 L w → St w0 S0 M w) (h : Reach w0 S0 n F M R) : Reach w0 S0 n F L R :=
  fun a w hf hs => h a w hf (hM w hs)
theorem c_nil (e : TypeId) (sz : Nat) (h : Reach w0 S0 n F (rowHP (.slice none 0 0) e sz 0 [] :: L) R) : Reach w0 S0 n F L R := h.conv fun _ => St.nil e sz
theorem c_pick {M : List HP} (is : List Nat) (hL : pick L is = some M) (h : Reach w0 S0 n F M R) : Reach w0 S0 n F L R := h.conv fun _ hs => hs.pick is hL
/-- what stands in an entry of entries -/
theorem St.kid {w : World} {A : HP} {Ks : List HP} (h : St w0 S0 L w) (hL : starHP Ks ∈ L) (hK : A ∈ Ks) : ∃ S, A.sat S w := by
  obtain ⟨S, hs⟩ := h.mem hL
  obtain ⟨i, hi, rfl⟩ := List.getElem_of_mem hK
  obtain ⟨S1, _, _, _, _, ha, _⟩ := sats_get (List.getElem?_eq_getElem hi) hs
  exact ⟨S1, ha⟩
theorem ro_kid {w : World} {e : TypeId} {sz m : Nat} {ys : List Value} {Ks : List HP} (hs : St w0 S0 L w) (hL : starHP Ks ∈ L) (hK : rowHP v e sz m ys ∈ Ks) : RO w No v ys := by
  obtain ⟨S, hsat⟩ := hs.kid hL hK
  exact RO.of_rd (rowHP_rd hsat)
structure Lent (w0 : World) (S0 : FS) (L0 Lr : List HP) (S : FS) (w : World) : Prop where
  own : sats L0 S w
  old : ∃ Sf, Mod w0 S0 w Sf ∧ ∀ k, S k → Sf k
  rest : ∃ Sr, sats Lr Sr w ∧ ∀ k, S k → ¬ Sr k
theorem St.lend {w : World} {L0 Lr : List HP} (h : St w0 S0 (L0 ++ Lr) w) : ∃ S Sr Sf, Mod w0 S0 w Sf ∧ sats L0 S w ∧ sats Lr Sr w ∧ (∀ k, S k → Sf k) ∧ (∀ k, Sr k → Sf k ∧ k < w.heap.size) ∧ ∀ k, S k → ¬ Sr k := by
  obtain ⟨Sf, hm, hl⟩ := h
  obtain ⟨S1, S2, h1, h2, hd, ha, hb⟩ := sats_split (sats_bound hl)
  exact ⟨S1, S2, Sf, hm, ha, hb, fun k hk => (h1 k hk).1, fun k hk => h2 k hk, hd⟩
theorem Lent.ro_old {w : World} {S : FS} {L0 Lr : List HP} {ys : List Value} (h : Lent w0 S0 L0 Lr S w) (hr : RO w0 S0 v ys) : RO w S v ys := by
  intro w' S' hm
  obtain ⟨Sf, hm0, hS⟩ := h.old
  exact hr w' (fun k => Sf k ∨ S' k) (hm0.trans ⟨hm.os, hm.tape, hm.output, hm.drawn, hm.size, fun k hk hn => hm.keep k hk (fun h => hn (hS k h)), fun k hk => hk.elim .inl (fun h => (hm.new k h).imp (hS k) id)⟩)
theorem sats_mem {w : World} {A : HP} {M : List HP} {S : FS} (h : sats M S w) (hA : A ∈ M) : A.sat S w := by
  obtain ⟨i, hi, rfl⟩ := List.getElem_of_mem hA
  obtain ⟨S1, _, h1, _, _, ha, _⟩ := sats_get (List.getElem?_eq_getElem hi) h
  exact HP.mono _ h1 ha
theorem HP.keep {A : HP} {w w' : World} {S Sr S' : FS} (hA : A.sat Sr w) (hd : ∀ k, S k → ¬ Sr k) (hm : Mod w S w' S') : A.sat Sr w' := by
  refine A.mono (fun k hk => hk.1) (A.move (S := fun k => Sr k ∧ k < w.heap.size) (fun k hk hlt => hm.keep k hlt (fun h => hd k h hk.1)) (A.bound hA))
theorem Lent.ro_own {w : World} {S : FS} {L0 Lr : List HP} {e : TypeId} {sz m : Nat} {ys : List Value} (h : Lent w0 S0 L0 Lr S w) (hL : rowHP v e sz m ys ∈ Lr) : RO w S v ys := by
  intro w' S' hm
  obtain ⟨Sr, hr, hd⟩ := h.rest
  exact rowHP_rd (HP.keep (sats_mem hr hL) hd hm)
theorem Lent.ro_kid {w : World} {S : FS} {L0 Lr Ks : List HP} {e : TypeId} {sz m : Nat} {ys : List Value} (h : Lent w0 S0 L0 Lr S w) (hL : starHP Ks ∈ Lr) (hK : rowHP v e sz m ys ∈ Ks) : RO w S v ys := by
  intro w' S' hm
  obtain ⟨Sr, hr, hd⟩ := h.rest
  have := HP.keep (sats_mem hr hL) hd hm
  exact rowHP_rd (sats_mem this hK)
theorem l_lend {f : FuncId} {xs : Array Operand} {ts : Array TypeId} {vs : List Value} {G : Value → List HP → Prop} (L0 Lr : List HP) (hLL : L = L0 ++ Lr) (ho : o.op = .call { callee := .value (.func f), args := xs, argTypes := ts }) (hd : o.dst = some d) (hn : Nat.blt d n = true) (hvs : xs.toList.map (ev F) = vs.map some) [T : FnTy P f]
    (hc : ∀ w S, Lent w0 S0 L0 Lr S w → Calls P f vs.toArray w (Post w S G)) (h : ∀ v L', G v L' → Reach w0 S0 n ((d, v) :: F) (L' ++ Lr) R) : Reach w0 S0 n F L (fun a w => o.wp P a w R Q) := by
  subst hLL
  intro a w hf hs
  have hargs : xs.map a.eval = vs.toArray := by
    have : ∀ (l : List Operand) (us : List Value), l.map (ev F) = us.map some → l.map a.eval = us := by
      intro l
      induction l with
      | nil => intro us hu; cases us with | nil => rfl | cons _ _ => simp at hu
      | cons x l ih =>
        intro us hu
        cases us with
        | nil => simp at hu
        | cons u us =>
          simp only [List.map_cons, List.cons.injEq] at hu ⊢
          exact ⟨hf.eval hu.1, ih us hu.2⟩
    obtain ⟨l⟩ := xs
    rw [List.map_toArray, this l vs hvs]
  have hr : (execOp a.eval o).run P w = .ok (.enter f vs.toArray) w := by
    have e : a.eval (.func f) = .func (.func f) #[] #[] := rfl
    simp only [execOp, ho, resolve, hargs, e, Deferred.ofValue, invoke, Sem.run_bind, Sem.run_pure, Result.andThen_ok, Array.append_empty, Array.empty_append, T.c]
  unfold Oper.wp
  rw [hr, Oper.upon_enter]
  obtain ⟨S, Sr, Sf, hm0, hs0, hsr, hSf, hSr, hdis⟩ := hs.lend
  refine (hc w S ⟨hs0, ⟨Sf, hm0, hSf⟩, ⟨Sr, hsr, hdis⟩⟩).mono ?_
  rintro e w' ⟨u, L', g, rfl, S', hm, hl⟩
  refine h u L' g _ _ (by rw [hd]; exact hf.put hn) ?_
  have hsr' : sats Lr Sr w' := sats_move (fun k hk hlt => hm.keep k hlt (fun h => hdis k h hk)) hsr
  refine ⟨fun k => S' k ∨ Sr k, hm0.trans ⟨hm.os, hm.tape, hm.output, hm.drawn, hm.size, fun k hk hn => hm.keep k hk (fun h => hn (hSf k h)), ?_⟩, sats_append hl hsr' ?_⟩
  · rintro k (hk | hk)
    · exact (hm.new k hk).imp (hSf k) id
    · exact .inl (hSr k hk).1
  · intro k hk hk2
    rcases hm.new k hk with h | h
    · exact hdis k h hk2
    · have := (hSr k hk2).2; omega
theorem s_lend {f : FuncId} {xs : Array Operand} {ts : Array TypeId} {vs : List Value} {G : Value → List HP → Prop} {ty : TypeId} {ps : String} {af : Array Edge} (L0 Lr : List HP) (hLL : L = L0 ++ Lr) (hn : Nat.blt d n = true) (hvs : xs.toList.map (ev F) = vs.map some) [T : FnTy P f]
    (hc : ∀ w S, Lent w0 S0 L0 Lr S w → Calls P f vs.toArray w (Post w S G)) (h : ∀ v L', G v L' → Reach w0 S0 n ((d, v) :: F) (L' ++ Lr) (wpList P ops Q rest)) : Reach w0 S0 n F L (wpList P ops Q (⟨some d, .call { callee := .value (.func f), args := xs, argTypes := ts }, ty, ps, af, none⟩ :: rest)) :=
  s_of_l rfl fun R hR => l_lend L0 Lr hLL rfl rfl hn hvs hc fun v L' g => (h v L' g).imp hR
def cutV (v : Value) (sz a b : Nat) : Value := match v with
  | .slice p _ cap => .slice (if cap = a then p else p.map (·.add (a * sz))) (b - a) (cap - a)
  | v => v
theorem Shp.cut {m sz a b : Nat} (h : Shp v m) (ha : a ≤ b) (hb : b ≤ m) : Shp (cutV v sz a b) (b - a) := by
  rcases h with ⟨h0, ⟨rfl, rfl⟩ | ⟨g, off, cap, rfl, h1, h2⟩ | ⟨⟨a0, rfl⟩, rfl⟩⟩
  · refine ⟨by omega, .inl ⟨?_, by omega⟩⟩
    simp [cutV]; omega
  rotate_left
  · obtain rfl : a = 0 := by omega
    obtain rfl : b = 0 := by omega
    exact ⟨by simp [maxLen], .inr (.inr ⟨⟨a0, by simp [cutV]⟩, rfl⟩)⟩
  · refine ⟨by omega, .inr (.inl ?_)⟩
    by_cases hc : cap = a
    · exact ⟨g, off, cap - a, by simp [cutV, hc], by omega, by omega⟩
    · exact ⟨g, off + a * sz, cap - a, by simp [cutV, hc, Addr.add], by omega, by omega⟩
theorem rowHP_cut {e : TypeId} {sz m a b : Nat} {ys : List Value} {S : FS} {w : World} (h : (rowHP v e sz m ys).sat S w) (ha : a ≤ b) (hb : b ≤ m) : (rowHP (cutV v sz a b) e sz (b - a) ((ys.drop (a * sz)).take ((b - a) * sz))).sat S w := by
  have hbm := Nat.mul_le_mul_right sz hb
  have habm := Nat.mul_le_mul_right sz ha
  refine ⟨by rw [List.length_take, List.length_drop, h.1, Nat.sub_mul]; omega, ?_⟩
  rcases h.2 with ⟨rfl, rfl⟩ | ⟨g, off, cap, cur, rfl, h2, h3, h4, h5, h6, h7⟩ | ⟨⟨a0, rfl⟩, rfl⟩
  · refine .inl ⟨?_, by omega⟩
    simp [cutV]; omega
  · by_cases hc : cap = a
    · refine .inr (.inr ⟨⟨⟨g, off, none⟩, ?_⟩, by omega⟩)
      simp [cutV, hc]; omega
    · have hac : a ≤ cap := by omega
      refine .inr (.inl ⟨g, off + a * sz, cap - a, cur, by simp [cutV, hc, Addr.add], h2, h3, by omega, by omega, ?_, ?_⟩)
      · have := Nat.mul_le_mul_right sz hac
        rw [h6, Nat.sub_mul]; omega
      · rw [← h7, List.drop_take, List.take_take, List.drop_drop, Nat.sub_mul]
        congr 1
        omega
  · refine .inr (.inr ⟨⟨a0, ?_⟩, by omega⟩)
    have : a = 0 := by omega
    subst this
    simp [cutV]; omega
theorem RdV.cut {w : World} {m sz a b : Nat} {ys : List Value} (hs : Shp v m) (h : RdV w v ys) (ha : a ≤ b) (hb : b ≤ m) : RdV w (cutV v sz a b) ((ys.drop (a * sz)).take ((b - a) * sz)) := by
  intro j u hj
  have hlt : j < (b - a) * sz := by
    have := (List.getElem?_eq_some_iff.1 hj).1
    rw [List.length_take] at this; omega
  rw [List.getElem?_take, if_pos hlt, List.getElem?_drop] at hj
  obtain ⟨g, off, m', cap, rfl, hc⟩ := h _ _ hj
  have hba : a < b := by
    rcases Nat.lt_or_ge a b with h | h
    · exact h
    · have : b - a = 0 := by omega
      rw [this] at hlt; simp at hlt
  have hcap : cap ≠ a := by
    rcases hs.2 with ⟨h, _⟩ | ⟨_, _, _, h, h1, _⟩ | ⟨_, h⟩
    · simp at h
    · simp only [Value.slice.injEq] at h; omega
    · omega
  refine ⟨g, off + a * sz, b - a, cap - a, by simp [cutV, hcap, Addr.add], ?_⟩
  rw [Nat.add_assoc]; exact hc
theorem RO.cut {m sz a b : Nat} {ys : List Value} (hs : Shp v m) (h : RO w0 S0 v ys) (ha : a ≤ b) (hb : b ≤ m) : RO w0 S0 (cutV v sz a b) ((ys.drop (a * sz)).take ((b - a) * sz)) :=
  fun w S hm => (h w S hm).cut hs ha hb
theorem run_sliceAt {t e : TypeId} {z : Value} {sz bs m cap : Nat} {p : Option Addr} {lo hi : Option Value} {l h : Nat} [T : SlTy P t e z sz bs] (w : World) (hb : (Instr.sliceBounds true m cap lo hi none).run P w = .ok (l, h, cap) w) : (Instr.sliceAt t (.slice p m cap) lo hi none).run P w = .ok (cutV (.slice p m cap) sz l h) w := by
  simp [Instr.sliceAt, Instr.slice, run_under T.u, hb, T.size, cutV]
/-- v[lo:] -/
theorem q_cut_lo {x lo : Operand} {t e : TypeId} {s z : Value} {m sz bs : Nat} {k : IntKind} {i : Int} (ho : o.op = .slice t x (some lo) none none) (hx : ev F x = some s) (hl : ev F lo = some (.int k i)) (hs : Shp s m) (hi : 0 ≤ i ∧ i ≤ (m : Int)) [T : SlTy P t e z sz bs] : R1 P w0 S0 n F L o (cutV s sz i.toNat m) :=
  q_of_pure fun a hf w => by
    have key : ∀ cap, (Instr.sliceBounds true m cap (some (.int k i)) none none).run P w = .ok (i.toNat, m, cap) w := fun cap => by
      simp [Instr.sliceBounds, run_sliceBound, hi.1, hi.2]
    rcases hs.2 with ⟨rfl, rfl⟩ | ⟨g, off, cap, rfl, _⟩ | ⟨⟨a0, rfl⟩, rfl⟩
    · simp [execOp, ho, hf.eval hx, hf.eval hl, run_sliceAt w (key 0)]
    · simp [execOp, ho, hf.eval hx, hf.eval hl, run_sliceAt w (key cap)]
    · simp [execOp, ho, hf.eval hx, hf.eval hl, run_sliceAt w (key 0)]
/-- from here on the row is what was cut off -/
theorem St.cut {w : World} {e : TypeId} {sz m a b i : Nat} {ys : List Value} (hi : L[i]? = some (rowHP v e sz m ys)) (ha : a ≤ b) (hb : b ≤ m) (h : St w0 S0 L w) : St w0 S0 (L.set i (rowHP (cutV v sz a b) e sz (b - a) ((ys.drop (a * sz)).take ((b - a) * sz)))) w :=
  h.step hi fun S hs => ⟨S, Mod.refl w S, rowHP_cut hs ha hb⟩
theorem c_cutrow {e : TypeId} {sz m : Nat} {ys : List Value} (i a b : Nat) (hi : L[i]? = some (rowHP v e sz m ys)) (ha : a ≤ b) (hb : b ≤ m) (h : Reach w0 S0 n F (L.set i (rowHP (cutV v sz a b) e sz (b - a) ((ys.drop (a * sz)).take ((b - a) * sz)))) R) : Reach w0 S0 n F L R := h.conv fun _ => St.cut hi ha hb
end
end Go.Sl
end
section
set_option linter.unusedVariables false
set_option linter.unusedSimpArgs false
namespace Go.Sl
open Go Go.RowKit
/-- a box that another owns, read -/
def RB (w0 : World) (S0 : FS) (b : Nat) (t : TypeId) (cs : List Value) : Prop := ∀ w S, Mod w0 S0 w S → w.heap[b]? = some (.cells cs.toArray t (0, 0))
class BdTy (P : Program) (t : TypeId) (z : outParam Value) (pl : outParam (List (Nat × Nat))) : Prop where
  z : ∀ w, (zeroValue t).run P w = .ok z w
  ex : ∃ fs : List Field, P.underlying t = some (.struct fs.toArray) ∧ ∀ w, (fs.mapM fun (f : Field) => (do pure (f.offset, ← sizeOf f.type) : Sem (Nat × Nat))).run P w = .ok pl w
section
variable {P : Program} {w0 : World} {S0 : FS} {n : Nat} {F : List (Nat × Value)} {L Lk : List HP} {o : Oper} {rest : List Oper} {ops : Array Oper} {Q : Exit → Act → World → Prop} {d : Nat} {v : Value} {R : Act → World → Prop} [HasD n]
theorem rb_own {w : World} {b : Nat} {t : TypeId} {cs : List Value} (hs : St w0 S0 L w) (hL : boxHP b t cs ∈ L) : RB w No b t cs := by
  obtain ⟨S, hsat⟩ := hs.mem hL
  intro w' S' hm
  exact (hm.below.block _ (Array.getElem?_eq_some_iff.1 hsat.2).1).trans hsat.2
theorem rb_old {w : World} {b : Nat} {t : TypeId} {cs : List Value} (hs : St w0 S0 L w) (hr : RB w0 S0 b t cs) : RB w No b t cs := by
  intro w' S' hm
  obtain ⟨S, hm0, _⟩ := hs
  exact hr w' (fun k => S k ∨ S' k) (hm0.trans ⟨hm.os, hm.tape, hm.output, hm.drawn, hm.size, fun k hk _ => hm.keep k hk (fun h => h), fun k hk => hk.imp id (fun h => (hm.new k h).elim (fun h => h.elim) id)⟩)
theorem q_ld_rb {x : Operand} {t tb : TypeId} {b off : Nat} {cs : List Value} (hr : RB w0 S0 b tb cs) (ho : o.op = .load t x) (hx : ev F x = some (.pointer (some ⟨b, off, none⟩))) (hc : cs[off]? = some v) [T : ScTy P t] : R1 P w0 S0 n F L o v :=
  q_of_run fun a hf w hs => by
    obtain ⟨S, hm, _⟩ := hs
    have hcell : w.cell? ⟨b, off, none⟩ = some v := by simp [World.cell?, hr w S hm, hc]
    simp [execOp, ho, hf.eval hx, run_load1 T.agg hcell]
theorem q_mkf {f : Fn} {xs ys : Array Operand} {vs us : List Value} (ho : o.op = .makeFunc f xs ys) (hxs : xs.toList.map (ev F) = vs.map some) (hys : ys.toList.map (ev F) = us.map some) : R1 P w0 S0 n F L o (.func f vs.toArray us.toArray) :=
  q_of_pure fun a hf w => by
    have key : ∀ (l : List Operand) (us : List Value), l.map (ev F) = us.map some → l.map a.eval = us := by
      intro l
      induction l with
      | nil => intro us hu; cases us with | nil => rfl | cons _ _ => simp at hu
      | cons x l ih =>
        intro us hu
        cases us with
        | nil => simp at hu
        | cons u us =>
          simp only [List.map_cons, List.cons.injEq] at hu ⊢
          exact ⟨hf.eval hu.1, ih us hu.2⟩
    obtain ⟨xl⟩ := xs
    obtain ⟨yl⟩ := ys
    simp [execOp, ho, Instr.makeFunc, key xl vs hxs, key yl us hys]
theorem callv_run {f : FuncId} {c : Operand} {xs : Array Operand} {ts : Array TypeId} {vs pre caps : List Value} {a : Act} {w : World} [T : FnTy P f] (hf : Fr F n a) (ho : o.op = .call { callee := .value c, args := xs, argTypes := ts }) (hc : ev F c = some (.func (.func f) pre.toArray caps.toArray)) (hvs : xs.toList.map (ev F) = vs.map some) :
    (execOp a.eval o).run P w = .ok (.enter f (pre ++ vs ++ caps).toArray) w := by
  have hargs : xs.map a.eval = vs.toArray := by
    have : ∀ (l : List Operand) (us : List Value), l.map (ev F) = us.map some → l.map a.eval = us := by
      intro l
      induction l with
      | nil => intro us hu; cases us with | nil => rfl | cons _ _ => simp at hu
      | cons x l ih =>
        intro us hu
        cases us with
        | nil => simp at hu
        | cons u us =>
          simp only [List.map_cons, List.cons.injEq] at hu ⊢
          exact ⟨hf.eval hu.1, ih us hu.2⟩
    obtain ⟨l⟩ := xs
    rw [List.map_toArray, this l vs hvs]
  simp only [execOp, ho, resolve, hargs, hf.eval hc, Deferred.ofValue, invoke, Sem.run_bind, Sem.run_pure, Result.andThen_ok, T.c]
  simp
def bld (pl : List (Nat × Nat)) : List Value → List (Nat × List Value) → Option (List Value)
  | z, [] => some z
  | z, (i, us) :: l => match pl[i]? with
    | some (off, k) => if us.length = k ∧ off + k ≤ z.length then bld pl (putL z off us) l else none
    | none => none
theorem fill_bld (pl : List (Nat × Nat)) : ∀ (l : List (Nat × Value × List Value)) (cells : Array Value) (cs : List Value), (∀ q ∈ l, q.2.1.cells.toList = q.2.2) → bld pl cells.toList (l.map fun q => (q.1, q.2.2)) = some cs →
    ∃ arr : Array Value, Instr.fill (pl.toArray[·]?) cells (l.map fun q => (q.1, q.2.1)) = some arr ∧ arr.toList = cs
  | [], cells, cs, _, h => ⟨cells, rfl, by simpa [bld] using h⟩
  | (i, u, us) :: l, cells, cs, hq, h => by
    have hu : u.cells.toList = us := hq (i, u, us) (by simp)
    simp only [List.map_cons, bld] at h
    cases hp : pl[i]? with
    | none => simp [hp] at h
    | some p =>
      obtain ⟨off, k⟩ := p
      simp only [hp] at h
      split at h
      · rename_i hk
        have hsz : u.cells.size = k := by rw [← hk.1, ← hu]; simp
        let arr := u.cells.zipIdx.foldl (fun (cs : Array Value) (p : Value × Nat) => cs.setIfInBounds (off + p.2) p.1) cells
        have harr : arr.toList = putL cells.toList off us := by
          have e : arr = ((us.zipIdx 0).foldl (fun (cs : Array Value) (p : Value × Nat) => cs.setIfInBounds (off + p.2) p.1) cells) := by
            show u.cells.zipIdx.foldl _ cells = _
            rw [← Array.foldl_toList, ← hu]
            simp
          rw [e]
          have key : ∀ (us : List Value) (k off : Nat) (cells : Array Value), ((us.zipIdx k).foldl (fun (cs : Array Value) (p : Value × Nat) => cs.setIfInBounds (off + p.2) p.1) cells).toList = putL cells.toList (off + k) us := by
            intro us
            induction us with
            | nil => intro k off cells; rfl
            | cons u us ih =>
              intro k off cells
              simp only [List.zipIdx_cons, List.foldl_cons, putL]
              rw [ih (k + 1) off, Array.toList_setIfInBounds, Nat.add_assoc]
          exact key us 0 off cells
        rw [← harr] at h
        obtain ⟨arr', h1, h2⟩ := fill_bld pl l arr cs (fun q hq' => hq q (by simp [hq'])) h
        refine ⟨arr', ?_, h2⟩
        have hsz2 : off + k ≤ cells.size := by have := hk.2; simpa using this
        have hne : ¬ (u.cells.size ≠ k || off + u.cells.size > cells.size) = true := by
          simp only [hsz, ne_eq, not_true_eq_false, decide_false, Bool.false_or, decide_eq_true_eq]
          omega
        simp only [List.map_cons, Instr.fill]
        have hp' : pl.toArray[i]? = some (off, k) := by simpa using hp
        rw [hp']
        dsimp only
        rw [if_neg hne]
        exact h1
      · simp at h
theorem q_build {t : TypeId} {parts : Array (Nat × Operand)} {z : Value} {pl : List (Nat × Nat)} [T : BdTy P t z pl] (us : List (Nat × Value × List Value)) {cs : List Value} (ho : o.op = .build t parts) (hp : parts.toList.map (fun p => (p.1, ev F p.2)) = us.map (fun q => (q.1, some q.2.1))) (hc : ∀ q ∈ us, q.2.1.cells.toList = q.2.2) (hb : bld pl z.cells.toList (us.map fun q => (q.1, q.2.2)) = some cs) : R1 P w0 S0 n F L o (.agg cs.toArray) :=
  q_of_pure fun a hf w => by
    have hparts : (parts.map fun (i, x) => (i, a.eval x)).toList = us.map fun q => (q.1, q.2.1) := by
      have key : ∀ (l : List (Nat × Operand)) (m : List (Nat × Value × List Value)), l.map (fun p => (p.1, ev F p.2)) = m.map (fun q => (q.1, some q.2.1)) → l.map (fun (p : Nat × Operand) => (p.1, a.eval p.2)) = m.map fun q => (q.1, q.2.1) := by
        intro l
        induction l with
        | nil => intro m hm; cases m with | nil => rfl | cons _ _ => simp at hm
        | cons x l ih =>
          intro m hm
          cases m with
          | nil => simp at hm
          | cons y m =>
            simp only [List.map_cons, List.cons.injEq, Prod.mk.injEq] at hm ⊢
            refine ⟨⟨hm.1.1, hf.eval hm.1.2⟩, ih m hm.2⟩
      obtain ⟨l⟩ := parts
      simp only [List.map_toArray]
      exact key l us hp
    obtain ⟨fs, hu, hm⟩ := T.ex
    obtain ⟨arr, h1, h2⟩ := fill_bld pl us z.cells cs hc hb
    have e2 : arr = cs.toArray := by
      apply Array.toList_inj.1
      simpa using h2
    subst e2
    have hmm : (fs.toArray.mapM fun (f : Field) => (do pure (f.offset, ← sizeOf f.type) : Sem (Nat × Nat))).run P w = .ok pl.toArray w := by
      rw [Array.mapM_eq_mapM_toList, ← bind_pure_comp, Sem.run_bind]
      exact congrArg (fun r => Result.andThen r fun a w' => Sem.run P (pure a.toArray) w') (hm w)
    simp only [execOp, ho, Instr.build, Sem.run_bind, Sem.run_pure, run_under hu, T.z, Result.andThen_ok, hmm, hparts, h1]
def resRun (a : Act) : ResultVar → Sem Value
  | .tmp t => pure (a.tmps.getD t undef)
  | .cell b t => do loadVar t (← asAddr (a.tmps.getD b undef))
def resOk (P : Program) (w0 : World) (S0 : FS) (n : Nat) [HasD n] (F : List (Nat × Value)) (L : List HP) (r : ResultVar) (v : Value) : Prop :=
  ∀ a w, Fr F n a → St w0 S0 L w → (resRun a r).run P w = .ok v w
def resAll (P : Program) (w0 : World) (S0 : FS) (n : Nat) [HasD n] (F : List (Nat × Value)) (L : List HP) : List ResultVar → List Value → Prop
  | [], [] => True
  | r :: rs, v :: vs => resOk P w0 S0 n F L r v ∧ resAll P w0 S0 n F L rs vs
  | _, _ => False
def resV : List Value → Value
  | [v] => v
  | vs => .tuple vs.toArray
theorem res_tmp {t : Nat} (h : fget F t = some v) : resOk P w0 S0 n F L (.tmp t) v := fun a w hf hs => by simp [resRun, hf.look t v h]
theorem res_cellk {b t k tb : Nat} {p off : Nat} {cs us : List Value} [T : AgTy P t k] (h : fget F b = some (.pointer (some ⟨p, off, none⟩))) (hL : boxHP p tb cs ∈ L) (hc : (cs.drop off).take k = us) (hl : us.length = k) : resOk P w0 S0 n F L (.cell b t) (.agg us.toArray) := fun a w hf hs => by
  obtain ⟨S, hsat⟩ := hs.mem hL
  have := run_loadk (P := P) (b := p) (off := off) (w := w) T.agg T.size hl (fun j u hj => by
    have hlt := (List.getElem?_eq_some_iff.1 hj).1
    rw [← hc, List.getElem?_take, if_pos (by omega), List.getElem?_drop] at hj
    simp [World.cell?, hsat.2, hj])
  simp only [Instr.loadAt, Instr.sureAddr, Sem.run_bind, Sem.run_pure, Result.andThen_ok] at this
  simp [resRun, hf.look b _ h, asAddr, this]
theorem res_cell {b t tb : Nat} {p off : Nat} {cs : List Value} [T : ScTy P t] (h : fget F b = some (.pointer (some ⟨p, off, none⟩))) (hL : boxHP p tb cs ∈ L) (hc : cs[off]? = some v) : resOk P w0 S0 n F L (.cell b t) v := fun a w hf hs => by
  obtain ⟨S, hsat⟩ := hs.mem hL
  have hcell : w.cell? ⟨p, off, none⟩ = some v := by simp [World.cell?, hsat.2, hc]
  have := run_load1 T.agg hcell
  simp only [Instr.loadAt, Instr.sureAddr, Sem.run_bind, Sem.run_pure, Result.andThen_ok] at this
  simp [resRun, hf.look b _ h, asAddr, this]
theorem results_all {fn : Func} {rs : List ResultVar} {vs : List Value} {a : Act} {w : World} (hr : fn.results = rs.toArray) (h : resAll P w0 S0 n F L rs vs) (hf : Fr F n a) (hs : St w0 S0 L w) : (results fn a.tmps).run P w = .ok (resV vs) w := by
  have key : ∀ (rs : List ResultVar) (vs : List Value), resAll P w0 S0 n F L rs vs → (rs.mapM (resRun a)).run P w = .ok vs w := by
    intro rs
    induction rs with
    | nil => intro vs h; cases vs with | nil => simp | cons _ _ => exact h.elim
    | cons r rs ih =>
      intro vs h
      cases vs with
      | nil => exact h.elim
      | cons v vs =>
        have h1 := h.1 a w hf hs
        have h2 := ih vs h.2
        simp only [List.mapM_cons, Sem.run_bind, h1, Result.andThen_ok, h2, Sem.run_pure]
  have hk := key rs vs h
  have hmm : (rs.toArray.mapM (resRun a)).run P w = .ok vs.toArray w := by
    rw [Array.mapM_eq_mapM_toList]
    simp [hk]
  have e : results fn a.tmps = (do let vs ← fn.results.mapM (resRun a); pure (if h : vs.size = 1 then vs[0] else .tuple vs)) := by
    unfold results
    congr 1
  rw [e, hr, Sem.run_bind, hmm]
  simp only [Result.andThen_ok, Sem.run_pure]
  match vs with
  | [] => rfl
  | [v] => rfl
  | _ :: _ :: _ => simp [resV]
end
section
variable {P : Program} {w0 : World} {S0 : FS} {n : Nat} {F : List (Nat × Value)} {L Lk : List HP} {o : Oper} {rest : List Oper} {ops : Array Oper} {Q : Exit → Act → World → Prop} {d : Nat} {v : Value} {R : Act → World → Prop}
theorem retL {fn : Func} {w : World} {S : FS} {G : Value → List HP → Prop} (rs : List ResultVar) (vs : List Value) (is : List Nat) {M : List HP} (hr : fn.results = rs.toArray) (h : resAll P w S n F L rs vs) (hL : pick L is = some M) (hG : G (resV vs) M) : Reach w S n F L (bodyPost P fn (Post w S G) .ret) := by
  intro a w' hf hs
  exact ⟨hf.df, _, results_all hr h hf hs, _, M, hG, rfl, hs.pick is hL⟩
end
end Go.Sl
end
section
set_option linter.unusedVariables false
namespace Go.Sl
open Go Go.RowKit
section
variable {P : Program} {w0 : World} {S0 : FS} {n : Nat} {F : List (Nat × Value)} {L : List HP} {rest : List Oper} {ops : Array Oper} {Q : Exit → Act → World → Prop} {Qa : Act → Prop} {d : Nat} {v : Value} {ty : TypeId} {ps : String} {af : Array Edge} [HasD n]
theorem s_move {x : Operand}  (hn : Nat.blt d n = true) (hx : ev F x = some v) (h : Reach w0 S0 n ((d, v) :: F) L (wpList P ops Q rest)) : Reach w0 S0 n F L (wpList P ops Q (⟨some d, .move x, ty, ps, af, none⟩ :: rest)) := s_q rfl rfl hn ((q_move rfl hx).q) h
theorem w_move {x : Operand} {gd : Nat × Bool} {u : Nat} {want : Bool}  (hg : gslot ops ⟨some d, .move x, ty, ps, af, some gd⟩ = some (u, want)) (ht : fget F u = some (.bool want)) (hn : Nat.blt d n = true) (hx : ev F x = some v) (h : Reach w0 S0 n ((d, v) :: F) L (wpList P ops Q rest)) : Reach w0 S0 n F L (wpList P ops Q (⟨some d, .move x, ty, ps, af, some gd⟩ :: rest)) := s_want hg ht rfl hn ((q_move rfl hx).q) h
theorem d_move {x : Operand}  (hn : Nat.blt d n = true) (hx : ev F x = some v) (h : RQ w0 S0 n ((d, v) :: F) (wpQuiet P ops (St w0 S0 L) Qa rest)) : RQ w0 S0 n F (wpQuiet P ops (St w0 S0 L) Qa (⟨some d, .move x, ty, ps, af, none⟩ :: rest)) := d_q rfl rfl hn ((q_move rfl hx).q) h
theorem dw_move {x : Operand} {gd : Nat × Bool} {u : Nat} {want : Bool}  (hg : gslot ops ⟨some d, .move x, ty, ps, af, some gd⟩ = some (u, want)) (ht : fget F u = some (.bool want)) (hn : Nat.blt d n = true) (hx : ev F x = some v) (h : RQ w0 S0 n ((d, v) :: F) (wpQuiet P ops (St w0 S0 L) Qa rest)) : RQ w0 S0 n F (wpQuiet P ops (St w0 S0 L) Qa (⟨some d, .move x, ty, ps, af, some gd⟩ :: rest)) := d_want hg ht rfl hn ((q_move rfl hx).q) h
theorem s_assign {x : Operand}  (hn : Nat.blt d n = true) (hx : ev F x = some v) (h : Reach w0 S0 n ((d, v) :: F) L (wpList P ops Q rest)) : Reach w0 S0 n F L (wpList P ops Q (⟨some d, .assign x, ty, ps, af, none⟩ :: rest)) := s_q rfl rfl hn ((q_assign rfl hx).q) h
theorem s_pick_t {c x y : Operand}  (hn : Nat.blt d n = true) (hc : ev F c = some (.bool true)) (hx : ev F x = some v) (h : Reach w0 S0 n ((d, v) :: F) L (wpList P ops Q rest)) : Reach w0 S0 n F L (wpList P ops Q (⟨some d, .pick c x y, ty, ps, af, none⟩ :: rest)) := s_q rfl rfl hn ((q_pick_t rfl hc hx).q) h
theorem w_pick_t {c x y : Operand} {gd : Nat × Bool} {u : Nat} {want : Bool}  (hg : gslot ops ⟨some d, .pick c x y, ty, ps, af, some gd⟩ = some (u, want)) (ht : fget F u = some (.bool want)) (hn : Nat.blt d n = true) (hc : ev F c = some (.bool true)) (hx : ev F x = some v) (h : Reach w0 S0 n ((d, v) :: F) L (wpList P ops Q rest)) : Reach w0 S0 n F L (wpList P ops Q (⟨some d, .pick c x y, ty, ps, af, some gd⟩ :: rest)) := s_want hg ht rfl hn ((q_pick_t rfl hc hx).q) h
theorem d_pick_t {c x y : Operand}  (hn : Nat.blt d n = true) (hc : ev F c = some (.bool true)) (hx : ev F x = some v) (h : RQ w0 S0 n ((d, v) :: F) (wpQuiet P ops (St w0 S0 L) Qa rest)) : RQ w0 S0 n F (wpQuiet P ops (St w0 S0 L) Qa (⟨some d, .pick c x y, ty, ps, af, none⟩ :: rest)) := d_q rfl rfl hn ((q_pick_t rfl hc hx).q) h
theorem s_pick_f {c x y : Operand}  (hn : Nat.blt d n = true) (hc : ev F c = some (.bool false)) (hx : ev F y = some v) (h : Reach w0 S0 n ((d, v) :: F) L (wpList P ops Q rest)) : Reach w0 S0 n F L (wpList P ops Q (⟨some d, .pick c x y, ty, ps, af, none⟩ :: rest)) := s_q rfl rfl hn ((q_pick_f rfl hc hx).q) h
theorem w_pick_f {c x y : Operand} {gd : Nat × Bool} {u : Nat} {want : Bool}  (hg : gslot ops ⟨some d, .pick c x y, ty, ps, af, some gd⟩ = some (u, want)) (ht : fget F u = some (.bool want)) (hn : Nat.blt d n = true) (hc : ev F c = some (.bool false)) (hx : ev F y = some v) (h : Reach w0 S0 n ((d, v) :: F) L (wpList P ops Q rest)) : Reach w0 S0 n F L (wpList P ops Q (⟨some d, .pick c x y, ty, ps, af, some gd⟩ :: rest)) := s_want hg ht rfl hn ((q_pick_f rfl hc hx).q) h
theorem s_lss {t t' : TypeId} {x y : Operand} {k : IntKind} {i j : Int}  (hn : Nat.blt d n = true) (hx : ev F x = some (.int k i)) (hy : ev F y = some (.int k j)) (h : Reach w0 S0 n ((d, .bool (decide (i < j))) :: F) L (wpList P ops Q rest)) : Reach w0 S0 n F L (wpList P ops Q (⟨some d, .binOp .lss t x y t', ty, ps, af, none⟩ :: rest)) := s_q rfl rfl hn ((q_lss rfl hx hy).q) h
theorem w_lss {t t' : TypeId} {x y : Operand} {k : IntKind} {i j : Int} {gd : Nat × Bool} {u : Nat} {want : Bool}  (hg : gslot ops ⟨some d, .binOp .lss t x y t', ty, ps, af, some gd⟩ = some (u, want)) (ht : fget F u = some (.bool want)) (hn : Nat.blt d n = true) (hx : ev F x = some (.int k i)) (hy : ev F y = some (.int k j)) (h : Reach w0 S0 n ((d, .bool (decide (i < j))) :: F) L (wpList P ops Q rest)) : Reach w0 S0 n F L (wpList P ops Q (⟨some d, .binOp .lss t x y t', ty, ps, af, some gd⟩ :: rest)) := s_want hg ht rfl hn ((q_lss rfl hx hy).q) h
theorem d_lss {t t' : TypeId} {x y : Operand} {k : IntKind} {i j : Int}  (hn : Nat.blt d n = true) (hx : ev F x = some (.int k i)) (hy : ev F y = some (.int k j)) (h : RQ w0 S0 n ((d, .bool (decide (i < j))) :: F) (wpQuiet P ops (St w0 S0 L) Qa rest)) : RQ w0 S0 n F (wpQuiet P ops (St w0 S0 L) Qa (⟨some d, .binOp .lss t x y t', ty, ps, af, none⟩ :: rest)) := d_q rfl rfl hn ((q_lss rfl hx hy).q) h
theorem dw_lss {t t' : TypeId} {x y : Operand} {k : IntKind} {i j : Int} {gd : Nat × Bool} {u : Nat} {want : Bool}  (hg : gslot ops ⟨some d, .binOp .lss t x y t', ty, ps, af, some gd⟩ = some (u, want)) (ht : fget F u = some (.bool want)) (hn : Nat.blt d n = true) (hx : ev F x = some (.int k i)) (hy : ev F y = some (.int k j)) (h : RQ w0 S0 n ((d, .bool (decide (i < j))) :: F) (wpQuiet P ops (St w0 S0 L) Qa rest)) : RQ w0 S0 n F (wpQuiet P ops (St w0 S0 L) Qa (⟨some d, .binOp .lss t x y t', ty, ps, af, some gd⟩ :: rest)) := d_want hg ht rfl hn ((q_lss rfl hx hy).q) h
theorem s_leq {t t' : TypeId} {x y : Operand} {k : IntKind} {i j : Int}  (hn : Nat.blt d n = true) (hx : ev F x = some (.int k i)) (hy : ev F y = some (.int k j)) (h : Reach w0 S0 n ((d, .bool (decide (i ≤ j))) :: F) L (wpList P ops Q rest)) : Reach w0 S0 n F L (wpList P ops Q (⟨some d, .binOp .leq t x y t', ty, ps, af, none⟩ :: rest)) := s_q rfl rfl hn ((q_leq rfl hx hy).q) h
theorem w_leq {t t' : TypeId} {x y : Operand} {k : IntKind} {i j : Int} {gd : Nat × Bool} {u : Nat} {want : Bool}  (hg : gslot ops ⟨some d, .binOp .leq t x y t', ty, ps, af, some gd⟩ = some (u, want)) (ht : fget F u = some (.bool want)) (hn : Nat.blt d n = true) (hx : ev F x = some (.int k i)) (hy : ev F y = some (.int k j)) (h : Reach w0 S0 n ((d, .bool (decide (i ≤ j))) :: F) L (wpList P ops Q rest)) : Reach w0 S0 n F L (wpList P ops Q (⟨some d, .binOp .leq t x y t', ty, ps, af, some gd⟩ :: rest)) := s_want hg ht rfl hn ((q_leq rfl hx hy).q) h
theorem d_leq {t t' : TypeId} {x y : Operand} {k : IntKind} {i j : Int}  (hn : Nat.blt d n = true) (hx : ev F x = some (.int k i)) (hy : ev F y = some (.int k j)) (h : RQ w0 S0 n ((d, .bool (decide (i ≤ j))) :: F) (wpQuiet P ops (St w0 S0 L) Qa rest)) : RQ w0 S0 n F (wpQuiet P ops (St w0 S0 L) Qa (⟨some d, .binOp .leq t x y t', ty, ps, af, none⟩ :: rest)) := d_q rfl rfl hn ((q_leq rfl hx hy).q) h
theorem dw_leq {t t' : TypeId} {x y : Operand} {k : IntKind} {i j : Int} {gd : Nat × Bool} {u : Nat} {want : Bool}  (hg : gslot ops ⟨some d, .binOp .leq t x y t', ty, ps, af, some gd⟩ = some (u, want)) (ht : fget F u = some (.bool want)) (hn : Nat.blt d n = true) (hx : ev F x = some (.int k i)) (hy : ev F y = some (.int k j)) (h : RQ w0 S0 n ((d, .bool (decide (i ≤ j))) :: F) (wpQuiet P ops (St w0 S0 L) Qa rest)) : RQ w0 S0 n F (wpQuiet P ops (St w0 S0 L) Qa (⟨some d, .binOp .leq t x y t', ty, ps, af, some gd⟩ :: rest)) := d_want hg ht rfl hn ((q_leq rfl hx hy).q) h
theorem s_gtr {t t' : TypeId} {x y : Operand} {k : IntKind} {i j : Int}  (hn : Nat.blt d n = true) (hx : ev F x = some (.int k i)) (hy : ev F y = some (.int k j)) (h : Reach w0 S0 n ((d, .bool (decide (j < i))) :: F) L (wpList P ops Q rest)) : Reach w0 S0 n F L (wpList P ops Q (⟨some d, .binOp .gtr t x y t', ty, ps, af, none⟩ :: rest)) := s_q rfl rfl hn ((q_gtr rfl hx hy).q) h
theorem w_gtr {t t' : TypeId} {x y : Operand} {k : IntKind} {i j : Int} {gd : Nat × Bool} {u : Nat} {want : Bool}  (hg : gslot ops ⟨some d, .binOp .gtr t x y t', ty, ps, af, some gd⟩ = some (u, want)) (ht : fget F u = some (.bool want)) (hn : Nat.blt d n = true) (hx : ev F x = some (.int k i)) (hy : ev F y = some (.int k j)) (h : Reach w0 S0 n ((d, .bool (decide (j < i))) :: F) L (wpList P ops Q rest)) : Reach w0 S0 n F L (wpList P ops Q (⟨some d, .binOp .gtr t x y t', ty, ps, af, some gd⟩ :: rest)) := s_want hg ht rfl hn ((q_gtr rfl hx hy).q) h
theorem w_geq {t t' : TypeId} {x y : Operand} {k : IntKind} {i j : Int} {gd : Nat × Bool} {u : Nat} {want : Bool}  (hg : gslot ops ⟨some d, .binOp .geq t x y t', ty, ps, af, some gd⟩ = some (u, want)) (ht : fget F u = some (.bool want)) (hn : Nat.blt d n = true) (hx : ev F x = some (.int k i)) (hy : ev F y = some (.int k j)) (h : Reach w0 S0 n ((d, .bool (decide (j ≤ i))) :: F) L (wpList P ops Q rest)) : Reach w0 S0 n F L (wpList P ops Q (⟨some d, .binOp .geq t x y t', ty, ps, af, some gd⟩ :: rest)) := s_want hg ht rfl hn ((q_geq rfl hx hy).q) h
theorem d_geq {t t' : TypeId} {x y : Operand} {k : IntKind} {i j : Int}  (hn : Nat.blt d n = true) (hx : ev F x = some (.int k i)) (hy : ev F y = some (.int k j)) (h : RQ w0 S0 n ((d, .bool (decide (j ≤ i))) :: F) (wpQuiet P ops (St w0 S0 L) Qa rest)) : RQ w0 S0 n F (wpQuiet P ops (St w0 S0 L) Qa (⟨some d, .binOp .geq t x y t', ty, ps, af, none⟩ :: rest)) := d_q rfl rfl hn ((q_geq rfl hx hy).q) h
theorem s_eql {t t' : TypeId} {x y : Operand} {k : IntKind} {i j : Int}  (hn : Nat.blt d n = true) (hx : ev F x = some (.int k i)) (hy : ev F y = some (.int k j)) (h : Reach w0 S0 n ((d, .bool (decide (i = j))) :: F) L (wpList P ops Q rest)) : Reach w0 S0 n F L (wpList P ops Q (⟨some d, .binOp .eql t x y t', ty, ps, af, none⟩ :: rest)) := s_q rfl rfl hn ((q_eql rfl hx hy).q) h
theorem w_eql {t t' : TypeId} {x y : Operand} {k : IntKind} {i j : Int} {gd : Nat × Bool} {u : Nat} {want : Bool}  (hg : gslot ops ⟨some d, .binOp .eql t x y t', ty, ps, af, some gd⟩ = some (u, want)) (ht : fget F u = some (.bool want)) (hn : Nat.blt d n = true) (hx : ev F x = some (.int k i)) (hy : ev F y = some (.int k j)) (h : Reach w0 S0 n ((d, .bool (decide (i = j))) :: F) L (wpList P ops Q rest)) : Reach w0 S0 n F L (wpList P ops Q (⟨some d, .binOp .eql t x y t', ty, ps, af, some gd⟩ :: rest)) := s_want hg ht rfl hn ((q_eql rfl hx hy).q) h
theorem dw_eql {t t' : TypeId} {x y : Operand} {k : IntKind} {i j : Int} {gd : Nat × Bool} {u : Nat} {want : Bool}  (hg : gslot ops ⟨some d, .binOp .eql t x y t', ty, ps, af, some gd⟩ = some (u, want)) (ht : fget F u = some (.bool want)) (hn : Nat.blt d n = true) (hx : ev F x = some (.int k i)) (hy : ev F y = some (.int k j)) (h : RQ w0 S0 n ((d, .bool (decide (i = j))) :: F) (wpQuiet P ops (St w0 S0 L) Qa rest)) : RQ w0 S0 n F (wpQuiet P ops (St w0 S0 L) Qa (⟨some d, .binOp .eql t x y t', ty, ps, af, some gd⟩ :: rest)) := d_want hg ht rfl hn ((q_eql rfl hx hy).q) h
theorem s_neq {t t' : TypeId} {x y : Operand} {k : IntKind} {i j : Int}  (hn : Nat.blt d n = true) (hx : ev F x = some (.int k i)) (hy : ev F y = some (.int k j)) (h : Reach w0 S0 n ((d, .bool (decide (i ≠ j))) :: F) L (wpList P ops Q rest)) : Reach w0 S0 n F L (wpList P ops Q (⟨some d, .binOp .neq t x y t', ty, ps, af, none⟩ :: rest)) := s_q rfl rfl hn ((q_neq rfl hx hy).q) h
theorem d_neq {t t' : TypeId} {x y : Operand} {k : IntKind} {i j : Int}  (hn : Nat.blt d n = true) (hx : ev F x = some (.int k i)) (hy : ev F y = some (.int k j)) (h : RQ w0 S0 n ((d, .bool (decide (i ≠ j))) :: F) (wpQuiet P ops (St w0 S0 L) Qa rest)) : RQ w0 S0 n F (wpQuiet P ops (St w0 S0 L) Qa (⟨some d, .binOp .neq t x y t', ty, ps, af, none⟩ :: rest)) := d_q rfl rfl hn ((q_neq rfl hx hy).q) h
theorem s_add {t t' : TypeId} {x y : Operand} {i j : Int}  (hn : Nat.blt d n = true) (hx : ev F x = some (.int .i64 i)) (hy : ev F y = some (.int .i64 j)) (hb : -9223372036854775808 ≤ i + j ∧ i + j ≤ 9223372036854775807) (h : Reach w0 S0 n ((d, .int .i64 (i + j)) :: F) L (wpList P ops Q rest)) : Reach w0 S0 n F L (wpList P ops Q (⟨some d, .binOp .add t x y t', ty, ps, af, none⟩ :: rest)) := s_q rfl rfl hn ((q_add rfl hx hy hb).q) h
theorem w_add {t t' : TypeId} {x y : Operand} {i j : Int} {gd : Nat × Bool} {u : Nat} {want : Bool}  (hg : gslot ops ⟨some d, .binOp .add t x y t', ty, ps, af, some gd⟩ = some (u, want)) (ht : fget F u = some (.bool want)) (hn : Nat.blt d n = true) (hx : ev F x = some (.int .i64 i)) (hy : ev F y = some (.int .i64 j)) (hb : -9223372036854775808 ≤ i + j ∧ i + j ≤ 9223372036854775807) (h : Reach w0 S0 n ((d, .int .i64 (i + j)) :: F) L (wpList P ops Q rest)) : Reach w0 S0 n F L (wpList P ops Q (⟨some d, .binOp .add t x y t', ty, ps, af, some gd⟩ :: rest)) := s_want hg ht rfl hn ((q_add rfl hx hy hb).q) h
theorem d_add {t t' : TypeId} {x y : Operand} {i j : Int}  (hn : Nat.blt d n = true) (hx : ev F x = some (.int .i64 i)) (hy : ev F y = some (.int .i64 j)) (hb : -9223372036854775808 ≤ i + j ∧ i + j ≤ 9223372036854775807) (h : RQ w0 S0 n ((d, .int .i64 (i + j)) :: F) (wpQuiet P ops (St w0 S0 L) Qa rest)) : RQ w0 S0 n F (wpQuiet P ops (St w0 S0 L) Qa (⟨some d, .binOp .add t x y t', ty, ps, af, none⟩ :: rest)) := d_q rfl rfl hn ((q_add rfl hx hy hb).q) h
theorem dw_add {t t' : TypeId} {x y : Operand} {i j : Int} {gd : Nat × Bool} {u : Nat} {want : Bool}  (hg : gslot ops ⟨some d, .binOp .add t x y t', ty, ps, af, some gd⟩ = some (u, want)) (ht : fget F u = some (.bool want)) (hn : Nat.blt d n = true) (hx : ev F x = some (.int .i64 i)) (hy : ev F y = some (.int .i64 j)) (hb : -9223372036854775808 ≤ i + j ∧ i + j ≤ 9223372036854775807) (h : RQ w0 S0 n ((d, .int .i64 (i + j)) :: F) (wpQuiet P ops (St w0 S0 L) Qa rest)) : RQ w0 S0 n F (wpQuiet P ops (St w0 S0 L) Qa (⟨some d, .binOp .add t x y t', ty, ps, af, some gd⟩ :: rest)) := d_want hg ht rfl hn ((q_add rfl hx hy hb).q) h
theorem s_sub {t t' : TypeId} {x y : Operand} {i j : Int}  (hn : Nat.blt d n = true) (hx : ev F x = some (.int .i64 i)) (hy : ev F y = some (.int .i64 j)) (hb : -9223372036854775808 ≤ i - j ∧ i - j ≤ 9223372036854775807) (h : Reach w0 S0 n ((d, .int .i64 (i - j)) :: F) L (wpList P ops Q rest)) : Reach w0 S0 n F L (wpList P ops Q (⟨some d, .binOp .sub t x y t', ty, ps, af, none⟩ :: rest)) := s_q rfl rfl hn ((q_sub rfl hx hy hb).q) h
theorem s_mul {t t' : TypeId} {x y : Operand} {i j : Int}  (hn : Nat.blt d n = true) (hx : ev F x = some (.int .i64 i)) (hy : ev F y = some (.int .i64 j)) (hb : -9223372036854775808 ≤ i * j ∧ i * j ≤ 9223372036854775807) (h : Reach w0 S0 n ((d, .int .i64 (i * j)) :: F) L (wpList P ops Q rest)) : Reach w0 S0 n F L (wpList P ops Q (⟨some d, .binOp .mul t x y t', ty, ps, af, none⟩ :: rest)) := s_q rfl rfl hn ((q_mul rfl hx hy hb).q) h
theorem s_min {tys : Array TypeId} {x y : Operand} {k : IntKind} {i j : Int}  (hn : Nat.blt d n = true) (hx : ev F x = some (.int k i)) (hy : ev F y = some (.int k j)) (h : Reach w0 S0 n ((d, .int k (min i j)) :: F) L (wpList P ops Q rest)) : Reach w0 S0 n F L (wpList P ops Q (⟨some d, .call { callee := .builtin .min, args := #[x, y], argTypes := tys }, ty, ps, af, none⟩ :: rest)) := s_q rfl rfl hn ((q_min rfl hx hy).q) h
theorem d_min {tys : Array TypeId} {x y : Operand} {k : IntKind} {i j : Int}  (hn : Nat.blt d n = true) (hx : ev F x = some (.int k i)) (hy : ev F y = some (.int k j)) (h : RQ w0 S0 n ((d, .int k (min i j)) :: F) (wpQuiet P ops (St w0 S0 L) Qa rest)) : RQ w0 S0 n F (wpQuiet P ops (St w0 S0 L) Qa (⟨some d, .call { callee := .builtin .min, args := #[x, y], argTypes := tys }, ty, ps, af, none⟩ :: rest)) := d_q rfl rfl hn ((q_min rfl hx hy).q) h
theorem w_max {tys : Array TypeId} {x y : Operand} {k : IntKind} {i j : Int} {gd : Nat × Bool} {u : Nat} {want : Bool}  (hg : gslot ops ⟨some d, .call { callee := .builtin .max, args := #[x, y], argTypes := tys }, ty, ps, af, some gd⟩ = some (u, want)) (ht : fget F u = some (.bool want)) (hn : Nat.blt d n = true) (hx : ev F x = some (.int k i)) (hy : ev F y = some (.int k j)) (h : Reach w0 S0 n ((d, .int k (max i j)) :: F) L (wpList P ops Q rest)) : Reach w0 S0 n F L (wpList P ops Q (⟨some d, .call { callee := .builtin .max, args := #[x, y], argTypes := tys }, ty, ps, af, some gd⟩ :: rest)) := s_want hg ht rfl hn ((q_max rfl hx hy).q) h
theorem dw_max {tys : Array TypeId} {x y : Operand} {k : IntKind} {i j : Int} {gd : Nat × Bool} {u : Nat} {want : Bool}  (hg : gslot ops ⟨some d, .call { callee := .builtin .max, args := #[x, y], argTypes := tys }, ty, ps, af, some gd⟩ = some (u, want)) (ht : fget F u = some (.bool want)) (hn : Nat.blt d n = true) (hx : ev F x = some (.int k i)) (hy : ev F y = some (.int k j)) (h : RQ w0 S0 n ((d, .int k (max i j)) :: F) (wpQuiet P ops (St w0 S0 L) Qa rest)) : RQ w0 S0 n F (wpQuiet P ops (St w0 S0 L) Qa (⟨some d, .call { callee := .builtin .max, args := #[x, y], argTypes := tys }, ty, ps, af, some gd⟩ :: rest)) := d_want hg ht rfl hn ((q_max rfl hx hy).q) h
theorem s_not {t : TypeId} {x : Operand} {b : Bool}  (hn : Nat.blt d n = true) (hx : ev F x = some (.bool b)) (h : Reach w0 S0 n ((d, .bool (!b)) :: F) L (wpList P ops Q rest)) : Reach w0 S0 n F L (wpList P ops Q (⟨some d, .unOp .not t x, ty, ps, af, none⟩ :: rest)) := s_q rfl rfl hn ((q_not rfl hx).q) h
theorem w_not {t : TypeId} {x : Operand} {b : Bool} {gd : Nat × Bool} {u : Nat} {want : Bool}  (hg : gslot ops ⟨some d, .unOp .not t x, ty, ps, af, some gd⟩ = some (u, want)) (ht : fget F u = some (.bool want)) (hn : Nat.blt d n = true) (hx : ev F x = some (.bool b)) (h : Reach w0 S0 n ((d, .bool (!b)) :: F) L (wpList P ops Q rest)) : Reach w0 S0 n F L (wpList P ops Q (⟨some d, .unOp .not t x, ty, ps, af, some gd⟩ :: rest)) := s_want hg ht rfl hn ((q_not rfl hx).q) h
theorem s_len {t e : TypeId} {x : Operand} {s z : Value} {m sz bs : Nat} [T : SlTy P t e z sz bs] (hn : Nat.blt d n = true) (hx : ev F x = some s) (hs : Shp s m) (h : Reach w0 S0 n ((d, .int .i64 m) :: F) L (wpList P ops Q rest)) : Reach w0 S0 n F L (wpList P ops Q (⟨some d, .call { callee := .builtin .len, args := #[x], argTypes := #[t] }, ty, ps, af, none⟩ :: rest)) := s_q rfl rfl hn ((q_len rfl hx hs).q) h
theorem w_len {t e : TypeId} {x : Operand} {s z : Value} {m sz bs : Nat} {gd : Nat × Bool} {u : Nat} {want : Bool} [T : SlTy P t e z sz bs] (hg : gslot ops ⟨some d, .call { callee := .builtin .len, args := #[x], argTypes := #[t] }, ty, ps, af, some gd⟩ = some (u, want)) (ht : fget F u = some (.bool want)) (hn : Nat.blt d n = true) (hx : ev F x = some s) (hs : Shp s m) (h : Reach w0 S0 n ((d, .int .i64 m) :: F) L (wpList P ops Q rest)) : Reach w0 S0 n F L (wpList P ops Q (⟨some d, .call { callee := .builtin .len, args := #[x], argTypes := #[t] }, ty, ps, af, some gd⟩ :: rest)) := s_want hg ht rfl hn ((q_len rfl hx hs).q) h
theorem dw_len {t e : TypeId} {x : Operand} {s z : Value} {m sz bs : Nat} {gd : Nat × Bool} {u : Nat} {want : Bool} [T : SlTy P t e z sz bs] (hg : gslot ops ⟨some d, .call { callee := .builtin .len, args := #[x], argTypes := #[t] }, ty, ps, af, some gd⟩ = some (u, want)) (ht : fget F u = some (.bool want)) (hn : Nat.blt d n = true) (hx : ev F x = some s) (hs : Shp s m) (h : RQ w0 S0 n ((d, .int .i64 m) :: F) (wpQuiet P ops (St w0 S0 L) Qa rest)) : RQ w0 S0 n F (wpQuiet P ops (St w0 S0 L) Qa (⟨some d, .call { callee := .builtin .len, args := #[x], argTypes := #[t] }, ty, ps, af, some gd⟩ :: rest)) := d_want hg ht rfl hn ((q_len rfl hx hs).q) h
theorem s_lens {t : TypeId} {x : Operand} {s : ByteArray} [T : StTy P t] (hn : Nat.blt d n = true) (hx : ev F x = some (.string s)) (h : Reach w0 S0 n ((d, .int .i64 s.size) :: F) L (wpList P ops Q rest)) : Reach w0 S0 n F L (wpList P ops Q (⟨some d, .call { callee := .builtin .len, args := #[x], argTypes := #[t] }, ty, ps, af, none⟩ :: rest)) := s_q rfl rfl hn ((q_lens rfl hx).q) h
theorem w_lens {t : TypeId} {x : Operand} {s : ByteArray} {gd : Nat × Bool} {u : Nat} {want : Bool} [T : StTy P t] (hg : gslot ops ⟨some d, .call { callee := .builtin .len, args := #[x], argTypes := #[t] }, ty, ps, af, some gd⟩ = some (u, want)) (ht : fget F u = some (.bool want)) (hn : Nat.blt d n = true) (hx : ev F x = some (.string s)) (h : Reach w0 S0 n ((d, .int .i64 s.size) :: F) L (wpList P ops Q rest)) : Reach w0 S0 n F L (wpList P ops Q (⟨some d, .call { callee := .builtin .len, args := #[x], argTypes := #[t] }, ty, ps, af, some gd⟩ :: rest)) := s_want hg ht rfl hn ((q_lens rfl hx).q) h
theorem s_idx {t e : TypeId} {x y : Operand} {s z : Value} {m sz bs i : Nat} {k : IntKind} [T : SlTy P t e z sz bs] (hn : Nat.blt d n = true) (hx : ev F x = some s) (hy : ev F y = some (.int k (i : Int))) (hs : Shp s m) (hi : i < m) (h : Reach w0 S0 n ((d, pv s (i * sz)) :: F) L (wpList P ops Q rest)) : Reach w0 S0 n F L (wpList P ops Q (⟨some d, .indexAddr t x y, ty, ps, af, none⟩ :: rest)) := s_q rfl rfl hn ((q_idx rfl hx hy hs hi).q) h
theorem d_idx {t e : TypeId} {x y : Operand} {s z : Value} {m sz bs i : Nat} {k : IntKind} [T : SlTy P t e z sz bs] (hn : Nat.blt d n = true) (hx : ev F x = some s) (hy : ev F y = some (.int k (i : Int))) (hs : Shp s m) (hi : i < m) (h : RQ w0 S0 n ((d, pv s (i * sz)) :: F) (wpQuiet P ops (St w0 S0 L) Qa rest)) : RQ w0 S0 n F (wpQuiet P ops (St w0 S0 L) Qa (⟨some d, .indexAddr t x y, ty, ps, af, none⟩ :: rest)) := d_q rfl rfl hn ((q_idx rfl hx hy hs hi).q) h
theorem s_idxi {t e : TypeId} {x y : Operand} {s z : Value} {m sz bs : Nat} {k : IntKind} {i : Int} [T : SlTy P t e z sz bs] (hn : Nat.blt d n = true) (hx : ev F x = some s) (hy : ev F y = some (.int k i)) (hs : Shp s m) (hi : 0 ≤ i ∧ i < (m : Int)) (h : Reach w0 S0 n ((d, pv s (i.toNat * sz)) :: F) L (wpList P ops Q rest)) : Reach w0 S0 n F L (wpList P ops Q (⟨some d, .indexAddr t x y, ty, ps, af, none⟩ :: rest)) := s_q rfl rfl hn ((q_idxi rfl hx hy hs hi).q) h
theorem w_idxi {t e : TypeId} {x y : Operand} {s z : Value} {m sz bs : Nat} {k : IntKind} {i : Int} {gd : Nat × Bool} {u : Nat} {want : Bool} [T : SlTy P t e z sz bs] (hg : gslot ops ⟨some d, .indexAddr t x y, ty, ps, af, some gd⟩ = some (u, want)) (ht : fget F u = some (.bool want)) (hn : Nat.blt d n = true) (hx : ev F x = some s) (hy : ev F y = some (.int k i)) (hs : Shp s m) (hi : 0 ≤ i ∧ i < (m : Int)) (h : Reach w0 S0 n ((d, pv s (i.toNat * sz)) :: F) L (wpList P ops Q rest)) : Reach w0 S0 n F L (wpList P ops Q (⟨some d, .indexAddr t x y, ty, ps, af, some gd⟩ :: rest)) := s_want hg ht rfl hn ((q_idxi rfl hx hy hs hi).q) h
theorem d_idxi {t e : TypeId} {x y : Operand} {s z : Value} {m sz bs : Nat} {k : IntKind} {i : Int} [T : SlTy P t e z sz bs] (hn : Nat.blt d n = true) (hx : ev F x = some s) (hy : ev F y = some (.int k i)) (hs : Shp s m) (hi : 0 ≤ i ∧ i < (m : Int)) (h : RQ w0 S0 n ((d, pv s (i.toNat * sz)) :: F) (wpQuiet P ops (St w0 S0 L) Qa rest)) : RQ w0 S0 n F (wpQuiet P ops (St w0 S0 L) Qa (⟨some d, .indexAddr t x y, ty, ps, af, none⟩ :: rest)) := d_q rfl rfl hn ((q_idxi rfl hx hy hs hi).q) h
theorem dw_idxi {t e : TypeId} {x y : Operand} {s z : Value} {m sz bs : Nat} {k : IntKind} {i : Int} {gd : Nat × Bool} {u : Nat} {want : Bool} [T : SlTy P t e z sz bs] (hg : gslot ops ⟨some d, .indexAddr t x y, ty, ps, af, some gd⟩ = some (u, want)) (ht : fget F u = some (.bool want)) (hn : Nat.blt d n = true) (hx : ev F x = some s) (hy : ev F y = some (.int k i)) (hs : Shp s m) (hi : 0 ≤ i ∧ i < (m : Int)) (h : RQ w0 S0 n ((d, pv s (i.toNat * sz)) :: F) (wpQuiet P ops (St w0 S0 L) Qa rest)) : RQ w0 S0 n F (wpQuiet P ops (St w0 S0 L) Qa (⟨some d, .indexAddr t x y, ty, ps, af, some gd⟩ :: rest)) := d_want hg ht rfl hn ((q_idxi rfl hx hy hs hi).q) h
theorem s_extract {x : Operand} {i : Nat} {vs : Array Value}  (hn : Nat.blt d n = true) (hx : ev F x = some (.tuple vs)) (hv : vs[i]? = some v) (h : Reach w0 S0 n ((d, v) :: F) L (wpList P ops Q rest)) : Reach w0 S0 n F L (wpList P ops Q (⟨some d, .extract x i, ty, ps, af, none⟩ :: rest)) := s_q rfl rfl hn ((q_extract rfl hx hv).q) h
theorem s_fa {x : Operand} {t : TypeId} {i b off fo k : Nat} {ag : Bool} [T : FdTy P t i fo k ag] (hn : Nat.blt d n = true) (hx : ev F x = some (.pointer (some ⟨b, off, none⟩))) (h : Reach w0 S0 n ((d, .pointer (some ⟨b, off + fo, none⟩)) :: F) L (wpList P ops Q rest)) : Reach w0 S0 n F L (wpList P ops Q (⟨some d, .fieldAddr t x i, ty, ps, af, none⟩ :: rest)) := s_q rfl rfl hn ((q_fa rfl hx).q) h
theorem w_fa {x : Operand} {t : TypeId} {i b off fo k : Nat} {ag : Bool} {gd : Nat × Bool} {u : Nat} {want : Bool} [T : FdTy P t i fo k ag] (hg : gslot ops ⟨some d, .fieldAddr t x i, ty, ps, af, some gd⟩ = some (u, want)) (ht : fget F u = some (.bool want)) (hn : Nat.blt d n = true) (hx : ev F x = some (.pointer (some ⟨b, off, none⟩))) (h : Reach w0 S0 n ((d, .pointer (some ⟨b, off + fo, none⟩)) :: F) L (wpList P ops Q rest)) : Reach w0 S0 n F L (wpList P ops Q (⟨some d, .fieldAddr t x i, ty, ps, af, some gd⟩ :: rest)) := s_want hg ht rfl hn ((q_fa rfl hx).q) h
theorem d_fa {x : Operand} {t : TypeId} {i b off fo k : Nat} {ag : Bool} [T : FdTy P t i fo k ag] (hn : Nat.blt d n = true) (hx : ev F x = some (.pointer (some ⟨b, off, none⟩))) (h : RQ w0 S0 n ((d, .pointer (some ⟨b, off + fo, none⟩)) :: F) (wpQuiet P ops (St w0 S0 L) Qa rest)) : RQ w0 S0 n F (wpQuiet P ops (St w0 S0 L) Qa (⟨some d, .fieldAddr t x i, ty, ps, af, none⟩ :: rest)) := d_q rfl rfl hn ((q_fa rfl hx).q) h
theorem s_ld_box {x : Operand} {t tb : TypeId} {b off : Nat} {cs : List Value} [T : ScTy P t] (hn : Nat.blt d n = true) (hx : ev F x = some (.pointer (some ⟨b, off, none⟩))) (hL : boxHP b tb cs ∈ L) (hc : cs[off]? = some v) (h : Reach w0 S0 n ((d, v) :: F) L (wpList P ops Q rest)) : Reach w0 S0 n F L (wpList P ops Q (⟨some d, .load t x, ty, ps, af, none⟩ :: rest)) := s_q rfl rfl hn ((q_ld_box rfl hx hL hc).q) h
theorem w_ld_box {x : Operand} {t tb : TypeId} {b off : Nat} {cs : List Value} {gd : Nat × Bool} {u : Nat} {want : Bool} [T : ScTy P t] (hg : gslot ops ⟨some d, .load t x, ty, ps, af, some gd⟩ = some (u, want)) (ht : fget F u = some (.bool want)) (hn : Nat.blt d n = true) (hx : ev F x = some (.pointer (some ⟨b, off, none⟩))) (hL : boxHP b tb cs ∈ L) (hc : cs[off]? = some v) (h : Reach w0 S0 n ((d, v) :: F) L (wpList P ops Q rest)) : Reach w0 S0 n F L (wpList P ops Q (⟨some d, .load t x, ty, ps, af, some gd⟩ :: rest)) := s_want hg ht rfl hn ((q_ld_box rfl hx hL hc).q) h
theorem d_ld_box {x : Operand} {t tb : TypeId} {b off : Nat} {cs : List Value} [T : ScTy P t] (hn : Nat.blt d n = true) (hx : ev F x = some (.pointer (some ⟨b, off, none⟩))) (hL : boxHP b tb cs ∈ L) (hc : cs[off]? = some v) (h : RQ w0 S0 n ((d, v) :: F) (wpQuiet P ops (St w0 S0 L) Qa rest)) : RQ w0 S0 n F (wpQuiet P ops (St w0 S0 L) Qa (⟨some d, .load t x, ty, ps, af, none⟩ :: rest)) := d_q rfl rfl hn ((q_ld_box rfl hx hL hc).q) h
theorem s_ldk_box {x : Operand} {t tb : TypeId} {b off k : Nat} {cs us : List Value} [T : AgTy P t k] (hn : Nat.blt d n = true) (hx : ev F x = some (.pointer (some ⟨b, off, none⟩))) (hL : boxHP b tb cs ∈ L) (hc : (cs.drop off).take k = us) (hl : us.length = k) (h : Reach w0 S0 n ((d, .agg us.toArray) :: F) L (wpList P ops Q rest)) : Reach w0 S0 n F L (wpList P ops Q (⟨some d, .load t x, ty, ps, af, none⟩ :: rest)) := s_q rfl rfl hn ((q_ldk_box rfl hx hL hl hc).q) h
theorem w_ldk_box {x : Operand} {t tb : TypeId} {b off k : Nat} {cs us : List Value} {gd : Nat × Bool} {u : Nat} {want : Bool} [T : AgTy P t k] (hg : gslot ops ⟨some d, .load t x, ty, ps, af, some gd⟩ = some (u, want)) (ht : fget F u = some (.bool want)) (hn : Nat.blt d n = true) (hx : ev F x = some (.pointer (some ⟨b, off, none⟩))) (hL : boxHP b tb cs ∈ L) (hc : (cs.drop off).take k = us) (hl : us.length = k) (h : Reach w0 S0 n ((d, .agg us.toArray) :: F) L (wpList P ops Q rest)) : Reach w0 S0 n F L (wpList P ops Q (⟨some d, .load t x, ty, ps, af, some gd⟩ :: rest)) := s_want hg ht rfl hn ((q_ldk_box rfl hx hL hl hc).q) h
theorem s_ld_ro {x : Operand} {t : TypeId} {k : Nat} {s : Value} {ys : List Value} [T : ScTy P t] (hn : Nat.blt d n = true) (hx : ev F x = some (pv s k)) (hr : RO w0 S0 s ys) (hc : ys[k]? = some v) (h : Reach w0 S0 n ((d, v) :: F) L (wpList P ops Q rest)) : Reach w0 S0 n F L (wpList P ops Q (⟨some d, .load t x, ty, ps, af, none⟩ :: rest)) := s_q rfl rfl hn ((q_ld_ro hr rfl hx hc).q) h
theorem s_ld_row {x : Operand} {t e : TypeId} {k sz m : Nat} {s : Value} {ys : List Value} [T : ScTy P t] (hn : Nat.blt d n = true) (hx : ev F x = some (pv s k)) (hL : rowHP s e sz m ys ∈ L) (hc : ys[k]? = some v) (h : Reach w0 S0 n ((d, v) :: F) L (wpList P ops Q rest)) : Reach w0 S0 n F L (wpList P ops Q (⟨some d, .load t x, ty, ps, af, none⟩ :: rest)) := s_q rfl rfl hn ((q_ld_row rfl hx hL hc).q) h
theorem d_ld_row {x : Operand} {t e : TypeId} {k sz m : Nat} {s : Value} {ys : List Value} [T : ScTy P t] (hn : Nat.blt d n = true) (hx : ev F x = some (pv s k)) (hL : rowHP s e sz m ys ∈ L) (hc : ys[k]? = some v) (h : RQ w0 S0 n ((d, v) :: F) (wpQuiet P ops (St w0 S0 L) Qa rest)) : RQ w0 S0 n F (wpQuiet P ops (St w0 S0 L) Qa (⟨some d, .load t x, ty, ps, af, none⟩ :: rest)) := d_q rfl rfl hn ((q_ld_row rfl hx hL hc).q) h
theorem dw_ld_row {x : Operand} {t e : TypeId} {k sz m : Nat} {s : Value} {ys : List Value} {gd : Nat × Bool} {u : Nat} {want : Bool} [T : ScTy P t] (hg : gslot ops ⟨some d, .load t x, ty, ps, af, some gd⟩ = some (u, want)) (ht : fget F u = some (.bool want)) (hn : Nat.blt d n = true) (hx : ev F x = some (pv s k)) (hL : rowHP s e sz m ys ∈ L) (hc : ys[k]? = some v) (h : RQ w0 S0 n ((d, v) :: F) (wpQuiet P ops (St w0 S0 L) Qa rest)) : RQ w0 S0 n F (wpQuiet P ops (St w0 S0 L) Qa (⟨some d, .load t x, ty, ps, af, some gd⟩ :: rest)) := d_want hg ht rfl hn ((q_ld_row rfl hx hL hc).q) h
theorem s_ldk_row {x : Operand} {t e : TypeId} {k z sz m : Nat} {s : Value} {ys us : List Value} [T : AgTy P t sz] (hn : Nat.blt d n = true) (hx : ev F x = some (pv s k)) (hL : rowHP s e z m ys ∈ L) (h0 : 0 < sz) (hc : (ys.drop k).take sz = us) (hl : us.length = sz) (h : Reach w0 S0 n ((d, .agg us.toArray) :: F) L (wpList P ops Q rest)) : Reach w0 S0 n F L (wpList P ops Q (⟨some d, .load t x, ty, ps, af, none⟩ :: rest)) := s_q rfl rfl hn ((q_ldk_row rfl hx hL h0 hl hc).q) h
theorem w_ldk_row {x : Operand} {t e : TypeId} {k z sz m : Nat} {s : Value} {ys us : List Value} {gd : Nat × Bool} {u : Nat} {want : Bool} [T : AgTy P t sz] (hg : gslot ops ⟨some d, .load t x, ty, ps, af, some gd⟩ = some (u, want)) (ht : fget F u = some (.bool want)) (hn : Nat.blt d n = true) (hx : ev F x = some (pv s k)) (hL : rowHP s e z m ys ∈ L) (h0 : 0 < sz) (hc : (ys.drop k).take sz = us) (hl : us.length = sz) (h : Reach w0 S0 n ((d, .agg us.toArray) :: F) L (wpList P ops Q rest)) : Reach w0 S0 n F L (wpList P ops Q (⟨some d, .load t x, ty, ps, af, some gd⟩ :: rest)) := s_want hg ht rfl hn ((q_ldk_row rfl hx hL h0 hl hc).q) h
theorem s_cut_lo {x lo : Operand} {t e : TypeId} {s z : Value} {m sz bs : Nat} {k : IntKind} {i : Int} [T : SlTy P t e z sz bs] (hn : Nat.blt d n = true) (hx : ev F x = some s) (hl : ev F lo = some (.int k i)) (hs : Shp s m) (hi : 0 ≤ i ∧ i ≤ (m : Int)) (h : Reach w0 S0 n ((d, cutV s sz i.toNat m) :: F) L (wpList P ops Q rest)) : Reach w0 S0 n F L (wpList P ops Q (⟨some d, .slice t x (some lo) none none, ty, ps, af, none⟩ :: rest)) := s_q rfl rfl hn ((q_cut_lo rfl hx hl hs hi).q) h
theorem s_ld_rb {x : Operand} {t tb : TypeId} {b off : Nat} {cs : List Value} [T : ScTy P t] (hn : Nat.blt d n = true) (hx : ev F x = some (.pointer (some ⟨b, off, none⟩))) (hr : RB w0 S0 b tb cs) (hc : cs[off]? = some v) (h : Reach w0 S0 n ((d, v) :: F) L (wpList P ops Q rest)) : Reach w0 S0 n F L (wpList P ops Q (⟨some d, .load t x, ty, ps, af, none⟩ :: rest)) := s_q rfl rfl hn ((q_ld_rb hr rfl hx hc).q) h
theorem d_ld_rb {x : Operand} {t tb : TypeId} {b off : Nat} {cs : List Value} [T : ScTy P t] (hn : Nat.blt d n = true) (hx : ev F x = some (.pointer (some ⟨b, off, none⟩))) (hr : RB w0 S0 b tb cs) (hc : cs[off]? = some v) (h : RQ w0 S0 n ((d, v) :: F) (wpQuiet P ops (St w0 S0 L) Qa rest)) : RQ w0 S0 n F (wpQuiet P ops (St w0 S0 L) Qa (⟨some d, .load t x, ty, ps, af, none⟩ :: rest)) := d_q rfl rfl hn ((q_ld_rb hr rfl hx hc).q) h
theorem s_call {f : FuncId} {xs : Array Operand} {ts : Array TypeId} {vs : List Value} {u : Value} [T : FnTy P f] (hn : Nat.blt d n = true) (hvs : xs.toList.map (ev F) = vs.map some) (hcl : ∀ w, St w0 S0 L w → Calls P f vs.toArray w (Post w No (Just u))) (h : Reach w0 S0 n ((d, u) :: F) L (wpList P ops Q rest)) : Reach w0 S0 n F L (wpList P ops Q (⟨some d, .call { callee := .value (.func f), args := xs, argTypes := ts }, ty, ps, af, none⟩ :: rest)) := s_q rfl rfl hn (q_call rfl hvs hcl) h
theorem d_call {f : FuncId} {xs : Array Operand} {ts : Array TypeId} {vs : List Value} {u : Value} [T : FnTy P f] (hn : Nat.blt d n = true) (hvs : xs.toList.map (ev F) = vs.map some) (hcl : ∀ w, St w0 S0 L w → Calls P f vs.toArray w (Post w No (Just u))) (h : RQ w0 S0 n ((d, u) :: F) (wpQuiet P ops (St w0 S0 L) Qa rest)) : RQ w0 S0 n F (wpQuiet P ops (St w0 S0 L) Qa (⟨some d, .call { callee := .value (.func f), args := xs, argTypes := ts }, ty, ps, af, none⟩ :: rest)) := d_q rfl rfl hn (q_call rfl hvs hcl) h
theorem g_case {op : Op} {ds : Option Tmp} {gd : Nat × Bool} {t : Nat} {want : Bool} {p : Prop} [Decidable p] (hg : gslot ops ⟨ds, op, ty, ps, af, some gd⟩ = some (t, want)) (ht : fget F t = some (.bool (decide p)))
    (h1 : p → Reach w0 S0 n ((t, .bool true) :: F) L (wpList P ops Q (⟨ds, op, ty, ps, af, some gd⟩ :: rest))) (h2 : ¬ p → Reach w0 S0 n ((t, .bool false) :: F) L (wpList P ops Q (⟨ds, op, ty, ps, af, some gd⟩ :: rest))) : Reach w0 S0 n F L (wpList P ops Q (⟨ds, op, ty, ps, af, some gd⟩ :: rest)) := s_case hg ht h1 h2
theorem g_skip {op : Op} {gd : Nat × Bool} {t : Nat} {want : Bool} {u0 : Value} (hg : gslot ops ⟨some d, op, ty, ps, af, some gd⟩ = some (t, want)) (ht : fget F t = some u0) (hb : skips u0 want = true) (hn : Nat.blt d n = true) (h : Reach w0 S0 n ((d, undef) :: F) L (wpList P ops Q rest)) : Reach w0 S0 n F L (wpList P ops Q (⟨some d, op, ty, ps, af, some gd⟩ :: rest)) := s_skip hg ht hb rfl hn h
theorem dg_case {op : Op} {ds : Option Tmp} {gd : Nat × Bool} {t : Nat} {want : Bool} {p : Prop} [Decidable p] (hg : gslot ops ⟨ds, op, ty, ps, af, some gd⟩ = some (t, want)) (ht : fget F t = some (.bool (decide p)))
    (h1 : p → RQ w0 S0 n ((t, .bool true) :: F) (wpQuiet P ops (St w0 S0 L) Qa (⟨ds, op, ty, ps, af, some gd⟩ :: rest))) (h2 : ¬ p → RQ w0 S0 n ((t, .bool false) :: F) (wpQuiet P ops (St w0 S0 L) Qa (⟨ds, op, ty, ps, af, some gd⟩ :: rest))) : RQ w0 S0 n F (wpQuiet P ops (St w0 S0 L) Qa (⟨ds, op, ty, ps, af, some gd⟩ :: rest)) := d_case hg ht h1 h2
theorem o_build {t : TypeId} {parts : Array (Nat × Operand)} {z : Value} {pl : List (Nat × Nat)} [T : BdTy P t z pl] (us : List (Nat × Value × List Value)) {cs : List Value} (hn : Nat.blt d n = true) (hp : parts.toList.map (fun p => (p.1, ev F p.2)) = us.map (fun q => (q.1, some q.2.1))) (hc : ∀ q ∈ us, q.2.1.cells.toList = q.2.2) (hb : bld pl z.cells.toList (us.map fun q => (q.1, q.2.2)) = some cs) (h : Reach w0 S0 n ((d, .agg cs.toArray) :: F) L (wpList P ops Q rest)) : Reach w0 S0 n F L (wpList P ops Q (⟨some d, .build t parts, ty, ps, af, none⟩ :: rest)) := s_q rfl rfl hn (q_build us rfl hp hc hb).q h
theorem o_box {x : Operand} {t : TypeId} {u : Value} (hn : Nat.blt d n = true) (hx : ev F x = some u)
    (h : ∀ b, Reach w0 S0 n ((d, .pointer (some ⟨b, 0, none⟩)) :: F) (boxHP b t u.cells.toList :: L) (wpList P ops Q rest)) : Reach w0 S0 n F L (wpList P ops Q (⟨some d, .box t x, ty, ps, af, none⟩ :: rest)) := s_of_l rfl fun R hR => l_box rfl rfl hn hx (fun b => (h b).imp hR)
theorem o_alloc {t : TypeId} {z : Value} [T : ZrTy P t z] (hn : Nat.blt d n = true)
    (h : ∀ b, Reach w0 S0 n ((d, .pointer (some ⟨b, 0, none⟩)) :: F) (boxHP b t z.cells.toList :: L) (wpList P ops Q rest)) : Reach w0 S0 n F L (wpList P ops Q (⟨some d, .alloc t, ty, ps, af, none⟩ :: rest)) := s_of_l rfl fun R hR => l_alloc rfl rfl hn (fun b => (h b).imp hR)
theorem o_st_box {x y : Operand} {t tb : TypeId} {b off i : Nat} {u : Value} {cs : List Value} [T : ScTy P t] (hx : ev F x = some (.pointer (some ⟨b, off, none⟩))) (hL : L[i]? = some (boxHP b tb cs)) (hy : ev F y = some u) (hu : u.oneCell' = true) (hlt : off < cs.length)
    (h : Reach w0 S0 n F (L.set i (boxHP b tb (cs.set off u))) (wpList P ops Q rest)) : Reach w0 S0 n F L (wpList P ops Q (⟨none, .store t x y, ty, ps, af, none⟩ :: rest)) := s_of_l rfl fun R hR => l_st_box rfl rfl hx hy hu hL hlt (h.imp hR)
theorem o_stk_box {x y : Operand} {t tb : TypeId} {b off i k : Nat} {u : Value} {us cs : List Value} [T : AgTy P t k] (hx : ev F x = some (.pointer (some ⟨b, off, none⟩))) (hL : L[i]? = some (boxHP b tb cs)) (hy : ev F y = some u) (hu : u.cells.toList = us) (hl : us.length = k) (h1 : ∀ u ∈ us, u.oneCell' = true) (hlt : off + k ≤ cs.length)
    (h : Reach w0 S0 n F (L.set i (boxHP b tb (putL cs off us))) (wpList P ops Q rest)) : Reach w0 S0 n F L (wpList P ops Q (⟨none, .store t x y, ty, ps, af, none⟩ :: rest)) := s_of_l rfl fun R hR => l_stk_box rfl rfl hx hy hu hl h1 hL hlt T.size (h.imp hR)
theorem o_call {f : FuncId} {xs : Array Operand} {ts : Array TypeId} {vs : List Value} {G : Value → List HP → Prop} [T : FnTy P f] (hn : Nat.blt d n = true) (hvs : xs.toList.map (ev F) = vs.map some)
    (hc : ∀ w, St w0 S0 L w → Calls P f vs.toArray w (Post w No G)) (h : ∀ v L', G v L' → Reach w0 S0 n ((d, v) :: F) (L' ++ L) (wpList P ops Q rest)) : Reach w0 S0 n F L (wpList P ops Q (⟨some d, .call { callee := .value (.func f), args := xs, argTypes := ts }, ty, ps, af, none⟩ :: rest)) := s_of_l rfl fun R hR => l_call0 rfl rfl hn hvs hc (fun v L' g => (h v L' g).imp hR)
theorem o_append_row {x y : Operand} {t e e' : TypeId} {z s u : Value} {sz sz' bytes m k i : Nat} {ys news : List Value} [T : SlTy P t e z sz bytes] (hn : Nat.blt d n = true) (hx : ev F x = some s) (hL : L[i]? = some (rowHP s e sz m ys)) (hy : ev F y = some u) (hM : rowHP u e' sz' k news ∈ L) (hl : news.length = k * sz) (h1 : ∀ u ∈ news, u.oneCell' = true) (hb : (m + k) * bytes ≤ 140737488355328)
    (h : ∀ v, Shp v (m + k) → Reach w0 S0 n ((d, v) :: F) (L.set i (rowHP v e sz (m + k) (ys ++ news))) (wpList P ops Q rest)) : Reach w0 S0 n F L (wpList P ops Q (⟨some d, .call { callee := .builtin .append, args := #[x, y], argTypes := #[t, t] }, ty, ps, af, none⟩ :: rest)) :=
  know_row hM fun hu _ => s_of_l rfl fun R hR => l_append_of (fun _ hs => (hs.mem hM).elim fun _ h => rowHP_rd h) rfl rfl hn hx hy hL hu hl h1 hb (fun v hv => (h v hv).imp hR)
theorem o_append_ro {x y : Operand} {t e : TypeId} {z s u : Value} {sz bytes m k i : Nat} {ys news : List Value} [T : SlTy P t e z sz bytes] (hn : Nat.blt d n = true) (hx : ev F x = some s) (hL : L[i]? = some (rowHP s e sz m ys)) (hy : ev F y = some u) (hr : RO w0 S0 u news) (hu : Shp u k) (hl : news.length = k * sz) (h1 : ∀ u ∈ news, u.oneCell' = true) (hb : (m + k) * bytes ≤ 140737488355328)
    (h : ∀ v, Shp v (m + k) → Reach w0 S0 n ((d, v) :: F) (L.set i (rowHP v e sz (m + k) (ys ++ news))) (wpList P ops Q rest)) : Reach w0 S0 n F L (wpList P ops Q (⟨some d, .call { callee := .builtin .append, args := #[x, y], argTypes := #[t, t] }, ty, ps, af, none⟩ :: rest)) :=
  s_of_l rfl fun R hR => l_append_of (fun _ hs => hs.rd hr) rfl rfl hn hx hy hL hu hl h1 hb (fun v hv => (h v hv).imp hR)
end
end Go.Sl
end
section
set_option linter.unusedVariables false
set_option linter.unusedSimpArgs false
namespace Go.Sl
open Go Go.RowKit
/-- What is asked of a post: what it says of a panic doesn't hang on the temporaries. -/
class PO (Q : Exit → Act → World → Prop) : Prop where
  ok : ∀ c (a : Act) d v w, Q (.panic c) (a.put d v) w → Q (.panic c) a w
instance {P : Program} {fn : Func} {R : Ending → World → Prop} : PO (bodyPost P fn R) := ⟨fun c a d v w h => by cases d <;> exact h⟩
instance {K : Act → World → Prop} {Q : Exit → Act → World → Prop} [T : PO Q] : PO (Exit.then K Q) := ⟨fun c a d v w h => T.ok c a d v w h⟩
instance {id : Nat} {Q : Exit → Act → World → Prop} [T : PO Q] : PO (Exit.inBlock id Q) := ⟨fun c a d v w h => T.ok c a d v w h⟩
section
variable {P : Program} {w0 : World} {S0 : FS} {n : Nat} {F : List (Nat × Value)} {L Lk : List HP} {o : Oper} {ops : Array Oper} {Q : Exit → Act → World → Prop} {d i k : Nat} {v : Value} {listed : Array Bool} [HasD n]
def RA (P : Program) (w0 : World) (S0 : FS) (n : Nat) [HasD n] (ops : Array Oper) (Q : Exit → Act → World → Prop) (Lk : List HP) (k : Nat) (listed : Array Bool) (F : List (Nat × Value)) (L : List HP) : Prop :=
  Reach w0 S0 n F L (fun a w => wpAnyH P .any ops Q (St w0 S0 Lk) k listed a w)
theorem a_begin {id : Nat} {l : List Oper} (Lk : List HP) (hm : P.follows .mixedOrders = true) (h : RA P w0 S0 n l.toArray Q Lk l.toArray.size (Array.replicate l.toArray.size false) F L) : Reach w0 S0 n F L ((Code.region id l.toArray true).wp P Q) :=
  fun a w hf hs => wp_region_held hm (h a _ hf hs.drew)
/-- a quiet one, as one that comes up -/
theorem l_q {R : Act → World → Prop} (hd : o.dst = some d) (hn : Nat.blt d n = true) (hq : Q1 P w0 S0 n F L o v) (h : Reach w0 S0 n ((d, v) :: F) L R) : Reach w0 S0 n F L (fun a w => o.wp P a w R Q) := by
  intro a w hf hs
  refine Oper.wp_of_quiet (C := St w0 S0 L) (K := fun a' => a' = a.put o.dst v) hs (fun a' w' hs' e => ?_) ⟨v, fun w hs => hq a hf w hs, rfl⟩
  subst e
  exact h _ _ (by rw [hd]; exact hf.put hn) hs'
end
end Go.Sl
end
section
set_option linter.unusedVariables false
set_option linter.unusedSimpArgs false
namespace Go.Sl
open Go Go.RowKit
/-- orders of a few operations: each way that they may come up -/
inductive PT where
  | leaf
  | one (i : Nat) (a : PT)
  | two (i : Nat) (a : PT) (j : Nat) (b : PT)
def PT.n : PT → Nat
  | .leaf => 0
  | .one _ a => a.n + 1
  | .two _ a _ _ => a.n + 1
inductive PI where
  | mk (i : Nat) (t : Bool)
  /-- two that may come up now, in either order -/
  | rd (i j : Nat)
  | tree (t : PT)
instance : Coe (Nat × Bool) PI := ⟨fun p => .mk p.1 p.2⟩
def PI.n : PI → Nat
  | .mk .. => 1
  | .rd .. => 2
  | .tree t => t.n
def planLen : List PI → Nat
  | [] => 0
  | p :: l => planLen l + p.n
def treeOk (ops : Array Oper) (k : Array Bool → Bool) : Array Bool → PT → Bool
  | listed, .leaf => k listed
  | listed, .one i a => Region.ready .any ops listed == [i] && treeOk ops k (listed.setIfInBounds i true) a
  | listed, .two i a j b => (Region.ready .any ops listed == [i, j] || Region.ready .any ops listed == [j, i]) && a.n == b.n && treeOk ops k (listed.setIfInBounds i true) a && treeOk ops k (listed.setIfInBounds j true) b
def planOk (ops : Array Oper) : Array Bool → List PI → Bool
  | listed, [] => (Region.ready .any ops listed).isEmpty
  | listed, .rd i j :: rest => (Region.ready .any ops listed == [i, j] || Region.ready .any ops listed == [j, i]) && Region.ready .any ops (listed.setIfInBounds i true) == [j] && Region.ready .any ops (listed.setIfInBounds j true) == [i] && planOk ops ((listed.setIfInBounds i true).setIfInBounds j true) rest && planOk ops ((listed.setIfInBounds j true).setIfInBounds i true) rest
  | listed, .tree t :: rest => treeOk ops (fun l => planOk ops l rest) listed t
  | listed, .mk i t :: rest => (if t then (Region.ready .any ops listed).contains i && Region.free .any ops listed i else Region.ready .any ops listed == [i]) && planOk ops (listed.setIfInBounds i true) rest
section
variable {P : Program} {w0 : World} {S0 : FS} {n : Nat} {F : List (Nat × Value)} {L Lk : List HP} {o : Oper} {ops : Array Oper} {Q : Exit → Act → World → Prop} {d i k : Nat} {v : Value} {listed : Array Bool} {rest : List PI} [HasD n]
def PWt (P : Program) (ops : Array Oper) (Q : Exit → Act → World → Prop) (S : World → Prop) (K : Act → World → Prop) : PT → Act → World → Prop
  | .leaf, a, w => K a w
  | .one i t, a, w => wpOp P ops Q i (fun a' w' => S w' ∧ PWt P ops Q S K t a' w') a w
  | .two i t j u, a, w => wpOp P ops Q i (fun a' w' => S w' ∧ PWt P ops Q S K t a' w') a w ∧ wpOp P ops Q j (fun a' w' => S w' ∧ PWt P ops Q S K u a' w') a w
def PW (P : Program) (ops : Array Oper) (Q : Exit → Act → World → Prop) (S : World → Prop) : List PI → Act → World → Prop
  | [], a, w => Q .normal a w
  | .rd i j :: rest, a, w => wpOp P ops Q i (fun a' w' => S w' ∧ wpOp P ops Q j (fun a' w' => S w' ∧ PW P ops Q S rest a' w') a' w') a w ∧ wpOp P ops Q j (fun a' w' => S w' ∧ wpOp P ops Q i (fun a' w' => S w' ∧ PW P ops Q S rest a' w') a' w') a w
  | .tree t :: rest, a, w => PWt P ops Q S (fun a' w' => PW P ops Q S rest a' w') t a w
  | .mk i true :: rest, a, w => ∃ o v, ops[i]? = some o ∧ YieldsIf P ops S o v a ∧ S w ∧ PW P ops Q S rest (a.put o.dst v) w
  | .mk i false :: rest, a, w => wpOp P ops Q i (fun a' w' => S w' ∧ PW P ops Q S rest a' w') a w
theorem pwt_sound {S : World → Prop} {K : Act → World → Prop} {k : Array Bool → Bool} {m : Nat} (hk : ∀ l a w, k l = true → K a w → wpAnyH P .any ops Q S m l a w) : ∀ (t : PT) (listed : Array Bool) (a : Act) (w : World), treeOk ops k listed t = true → PWt P ops Q S K t a w → wpAnyH P .any ops Q S (m + t.n) listed a w
  | .leaf, listed, a, w, hp, h => hk listed a w hp h
  | .one i t, listed, a, w, hp, h => by
    simp only [treeOk, Bool.and_eq_true] at hp
    have e : Region.ready .any ops listed = [i] := by simpa using hp.1
    refine wpAnyH_all e (by simp) fun j hj => ?_
    obtain rfl : j = i := by simpa using hj
    exact wpOp_mono (fun a' w' ⟨h1, h2⟩ => ⟨h1, pwt_sound hk t _ _ _ hp.2 h2⟩) h
  | .two i t j u, listed, a, w, hp, h => by
    simp only [treeOk, Bool.and_eq_true, Bool.or_eq_true, beq_iff_eq] at hp
    obtain ⟨⟨⟨h1, h2⟩, h3⟩, h4⟩ := hp
    have key : ∀ k, k = i ∨ k = j → wpOp P ops Q k (fun a' w' => S w' ∧ wpAnyH P .any ops Q S (m + t.n) (listed.setIfInBounds k true) a' w') a w := by
      rintro k (rfl | rfl)
      · exact wpOp_mono (fun a' w' ⟨h5, h6⟩ => ⟨h5, pwt_sound hk t _ _ _ h3 h6⟩) h.1
      · rw [h2]
        exact wpOp_mono (fun a' w' ⟨h5, h6⟩ => ⟨h5, pwt_sound hk u _ _ _ h4 h6⟩) h.2
    rcases h1 with h1 | h1
    · exact wpAnyH_all h1 (by simp) fun k hk => key k (by simpa using hk)
    · exact wpAnyH_all h1 (by simp) fun k hk => key k (by simpa [or_comm] using hk)
theorem pw_soundx {S : World → Prop} (hs : Region.noSelect ops = true) (hQ : ∀ (i : Nat) (o : Oper), ops[i]? = some o → ∀ c (a : Act) v w, Q (.panic c) (a.put o.dst v) w → Q (.panic c) a w) : ∀ (plan : List PI) (listed : Array Bool) (a : Act) (w : World), planOk ops listed plan = true → PW P ops Q S plan a w → wpAnyH P .any ops Q S (planLen plan) listed a w
  | [], listed, a, w, hp, h => by
    have : Region.ready .any ops listed = [] := by simpa [planOk] using hp
    exact wpAnyH_done this h 0
  | .rd i j :: rest, listed, a, w, hp, h => by
    simp only [planOk, Bool.and_eq_true, Bool.or_eq_true, beq_iff_eq] at hp
    obtain ⟨⟨⟨⟨h1, h2⟩, h3⟩, h4⟩, h5⟩ := hp
    show wpAnyH P .any ops Q S (planLen rest + 2) listed a w
    have key : ∀ k, k = i ∨ k = j → wpOp P ops Q k (fun a' w' => S w' ∧ wpAnyH P .any ops Q S (planLen rest + 1) (listed.setIfInBounds k true) a' w') a w := by
      rintro k (rfl | rfl)
      · refine wpOp_mono (fun a' w' ⟨hS, h'⟩ => ⟨hS, wpAnyH_all h2 (by simp) fun k hk => ?_⟩) h.1
        obtain rfl : k = j := by simpa using hk
        exact wpOp_mono (fun a' w' ⟨h1, h2⟩ => ⟨h1, pw_soundx hs hQ rest _ _ _ h4 h2⟩) h'
      · refine wpOp_mono (fun a' w' ⟨hS, h'⟩ => ⟨hS, wpAnyH_all h3 (by simp) fun k hk => ?_⟩) h.2
        obtain rfl : k = i := by simpa using hk
        exact wpOp_mono (fun a' w' ⟨h1, h2⟩ => ⟨h1, pw_soundx hs hQ rest _ _ _ h5 h2⟩) h'
    rcases h1 with h1 | h1
    · exact wpAnyH_all h1 (by simp) fun k hk => key k (by simpa using hk)
    · exact wpAnyH_all h1 (by simp) fun k hk => key k (by simpa [or_comm] using hk)
  | .tree t :: rest, listed, a, w, hp, h => by
    show wpAnyH P .any ops Q S (planLen rest + t.n) listed a w
    exact pwt_sound (fun l a w hl hK => pw_soundx hs hQ rest l a w hl hK) t listed a w hp h
  | .mk i true :: rest, listed, a, w, hp, h => by
    obtain ⟨o, v, ho, hy, hS, hr⟩ := h
    simp only [planOk, if_true, Bool.and_eq_true] at hp
    exact wpAnyH_take ho hs hp.1.2 hp.1.1 (fun c a w h => hQ i o ho c a _ w h) hy hS (pw_soundx hs hQ rest _ _ _ hp.2 hr)
  | .mk i false :: rest, listed, a, w, hp, h => by
    simp only [planOk, Bool.and_eq_true, Bool.false_eq_true, if_false] at hp
    have e : Region.ready .any ops listed = [i] := by simpa using hp.1
    refine wpAnyH_all e (by simp) fun j hj => ?_
    obtain rfl : j = i := by simpa using hj
    exact wpOp_mono (fun a' w' ⟨h1, h2⟩ => ⟨h1, pw_soundx hs hQ rest _ _ _ hp.2 h2⟩) h
theorem pw_sound [T : PO Q] {S : World → Prop} (hs : Region.noSelect ops = true) : ∀ (plan : List PI) (listed : Array Bool) (a : Act) (w : World), planOk ops listed plan = true → PW P ops Q S plan a w → wpAnyH P .any ops Q S (planLen plan) listed a w :=
  pw_soundx hs fun i o ho c a v w h => T.ok c a _ _ w h
def RP (P : Program) (w0 : World) (S0 : FS) (n : Nat) [HasD n] (ops : Array Oper) (Q : Exit → Act → World → Prop) (Lk : List HP) (plan : List PI) (F : List (Nat × Value)) (L : List HP) : Prop :=
  Reach w0 S0 n F L (fun a w => PW P ops Q (St w0 S0 Lk) plan a w)
/-- plan: the numbers; those that are taken first bear 'true'. Lk: what no operation of the region turns. -/
theorem p_begin [T : PO Q] {id : Nat} {l : List Oper} (plan : List PI) (Lk : List HP) (hm : (P.follows .mixedOrders && Region.noSelect l.toArray && planOk l.toArray (Array.replicate l.toArray.size false) plan && (planLen plan == l.toArray.size)) = true)
    (h : RP P w0 S0 n l.toArray Q Lk plan F L) : Reach w0 S0 n F L ((Code.region id l.toArray true).wp P Q) := by
  simp only [Bool.and_eq_true, beq_iff_eq] at hm
  obtain ⟨⟨⟨h1, h2⟩, h3⟩, h4⟩ := hm
  refine a_begin Lk h1 ?_
  intro a w hf hs
  have := pw_sound (P := P) (Q := Q) (S := St w0 S0 Lk) h2 plan _ a w h3 (h a w hf hs)
  rwa [h4] at this
theorem p_begin0 [T : PO Q] {id : Nat} {l : List Oper} (plan : List PI) (hm : (P.follows .mixedOrders && Region.noSelect l.toArray && planOk l.toArray (Array.replicate l.toArray.size false) plan && (planLen plan == l.toArray.size)) = true)
    (h : RP P w0 S0 n l.toArray Q L plan F L) : Reach w0 S0 n F L ((Code.region id l.toArray true).wp P Q) := p_begin plan L hm h
theorem p_nil (h : Reach w0 S0 n F L (Q .normal)) : RP P w0 S0 n ops Q Lk [] F L := h
theorem p_q (ho : ops[i]? = some o) (hg : o.guard = none) (hd : o.dst = some d) (hn : Nat.blt d n = true) (hL : ∀ w, St w0 S0 L w → St w0 S0 Lk w) (hq : R1 P w0 S0 n F Lk o v)
    (h : RP P w0 S0 n ops Q Lk rest ((d, v) :: F) L) : RP P w0 S0 n ops Q Lk (.mk i true :: rest) F L := by
  intro a w hf hst
  exact ⟨o, v, ho, .inl ⟨by simp [Region.wanted, hg], fun w' hw' => hq a hf w' hw'⟩, hL _ hst, h _ _ (by rw [hd]; exact hf.put hn) hst⟩
theorem p_want {t : Nat} {want : Bool} (ho : ops[i]? = some o) (hg : gslot ops o = some (t, want)) (ht : fget F t = some (.bool want)) (hd : o.dst = some d) (hn : Nat.blt d n = true) (hL : ∀ w, St w0 S0 L w → St w0 S0 Lk w) (hq : R1 P w0 S0 n F Lk o v)
    (h : RP P w0 S0 n ops Q Lk rest ((d, v) :: F) L) : RP P w0 S0 n ops Q Lk (.mk i true :: rest) F L := by
  intro a w hf hst
  exact ⟨o, v, ho, .inl ⟨by rw [wanted_of hf hg ht]; simp, fun w' hw' => hq a hf w' hw'⟩, hL _ hst, h _ _ (by rw [hd]; exact hf.put hn) hst⟩
theorem p_skip {t : Nat} {want : Bool} {u0 : Value} (ho : ops[i]? = some o) (hg : gslot ops o = some (t, want)) (ht : fget F t = some u0) (hb : skips u0 want = true) (hd : o.dst = some d) (hn : Nat.blt d n = true) (hL : ∀ w, St w0 S0 L w → St w0 S0 Lk w)
    (h : RP P w0 S0 n ops Q Lk rest ((d, undef) :: F) L) : RP P w0 S0 n ops Q Lk (.mk i true :: rest) F L := by
  intro a w hf hst
  exact ⟨o, undef, ho, .inr ⟨unwanted_of hf hg ht hb, rfl⟩, hL _ hst, h _ _ (by rw [hd]; exact hf.put hn) hst⟩
/-- one that isn't wanted, of those that come up alone -/
theorem p_skipl {t : Nat} {want : Bool} {u0 : Value} (ho : ops[i]? = some o) (hg : gslot ops o = some (t, want)) (ht : fget F t = some u0) (hb : skips u0 want = true) (hd : o.dst = some d) (hn : Nat.blt d n = true) (hL : ∀ w, St w0 S0 L w → St w0 S0 Lk w)
    (h : RP P w0 S0 n ops Q Lk rest ((d, undef) :: F) L) : RP P w0 S0 n ops Q Lk (.mk i false :: rest) F L := by
  intro a w hf hst
  show wpOp P ops Q i _ a w
  unfold wpOp
  rw [ho]
  simp only [unwanted_of hf hg ht hb, Bool.false_eq_true, if_false]
  exact ⟨hL _ hst, h _ _ (by rw [hd]; exact hf.put hn) hst⟩
theorem p_case {t : Nat} {want c : Bool} {p : Prop} [Decidable p] (ho : ops[i]? = some o) (hg : gslot ops o = some (t, want)) (ht : fget F t = some (.bool (decide p)))
    (h1 : p → RP P w0 S0 n ops Q Lk (.mk i c :: rest) ((t, .bool true) :: F) L) (h2 : ¬ p → RP P w0 S0 n ops Q Lk (.mk i c :: rest) ((t, .bool false) :: F) L) : RP P w0 S0 n ops Q Lk (.mk i c :: rest) F L := by
  intro a w hf hs
  by_cases hp : p
  · exact h1 hp a w (hf.known ht (decide_eq_true hp)) hs
  · exact h2 hp a w (hf.known ht (decide_eq_false hp)) hs
/-- one that comes up alone -/
theorem p_l (ho : ops[i]? = some o) (hg : o.guard = none)
    (h : ∀ R : Act → World → Prop, (∀ F' L', (∀ w, St w0 S0 L' w → St w0 S0 Lk w) → RP P w0 S0 n ops Q Lk rest F' L' → Reach w0 S0 n F' L' R) → Reach w0 S0 n F L (fun a w => o.wp P a w R Q)) : RP P w0 S0 n ops Q Lk (.mk i false :: rest) F L := by
  intro a w hf hs
  show wpOp P ops Q i _ a w
  unfold wpOp
  rw [ho]
  simp only [Region.wanted, hg, if_true]
  refine .inl (h (fun a' w' => St w0 S0 Lk w' ∧ PW P ops Q (St w0 S0 Lk) rest a' w') ?_ a w hf hs)
  intro F' L' hp hra a' w' hf' hs'
  exact ⟨hp _ hs', hra a' w' hf' hs'⟩
theorem p_lw {t : Nat} {want : Bool} (ho : ops[i]? = some o) (hg : gslot ops o = some (t, want)) (ht : fget F t = some (.bool want))
    (h : ∀ R : Act → World → Prop, (∀ F' L', (∀ w, St w0 S0 L' w → St w0 S0 Lk w) → RP P w0 S0 n ops Q Lk rest F' L' → Reach w0 S0 n F' L' R) → Reach w0 S0 n F L (fun a w => o.wp P a w R Q)) : RP P w0 S0 n ops Q Lk (.mk i false :: rest) F L := by
  intro a w hf hs
  show wpOp P ops Q i _ a w
  unfold wpOp
  rw [ho]
  simp only [wanted_of hf hg ht, beq_self_eq_true, if_true]
  refine .inl (h (fun a' w' => St w0 S0 Lk w' ∧ PW P ops Q (St w0 S0 Lk) rest a' w') ?_ a w hf hs)
  intro F' L' hp hra a' w' hf' hs'
  exact ⟨hp _ hs', hra a' w' hf' hs'⟩
/-- what only reads, at its own turn -/
theorem p_r (ho : ops[i]? = some o) (hg : o.guard = none) (hd : o.dst = some d) (hn : Nat.blt d n = true) (hL : ∀ w, St w0 S0 L w → St w0 S0 Lk w) (hq : R1 P w0 S0 n F L o v)
    (h : RP P w0 S0 n ops Q Lk rest ((d, v) :: F) L) : RP P w0 S0 n ops Q Lk (.mk i false :: rest) F L :=
  p_l ho hg fun R hR => l_q hd hn hq.q (hR _ _ hL h)
theorem RP.imp {M : List HP} (hM : ∀ w, St w0 S0 L w → St w0 S0 M w) {plan : List PI} (h : RP P w0 S0 n ops Q Lk plan F M) : RP P w0 S0 n ops Q Lk plan F L :=
  fun a w hf hs => h a w hf (hM w hs)
section
variable {ty : TypeId} {ps : String} {af : Array Edge}
/-- a call that hands back one value and leaves nothing -/
theorem p_call {f : FuncId} {xs : Array Operand} {ts : Array TypeId} {vs : List Value} {u : Value} {gd : Option (Nat × Bool)} [T : FnTy P f] (ho : ops[i]? = some ⟨some d, .call { callee := .value (.func f), args := xs, argTypes := ts }, ty, ps, af, none⟩) (hn : Nat.blt d n = true) (hvs : xs.toList.map (ev F) = vs.map some)
    (hc : ∀ w, St w0 S0 L w → Calls P f vs.toArray w (Post w No (Just u))) (hL : ∀ w, St w0 S0 L w → St w0 S0 Lk w) (h : RP P w0 S0 n ops Q Lk rest ((d, u) :: F) L) : RP P w0 S0 n ops Q Lk (.mk i false :: rest) F L :=
  p_l ho rfl fun R hR => l_q rfl hn (q_call rfl hvs hc) (hR _ _ hL h)
theorem p_callw {f : FuncId} {xs : Array Operand} {ts : Array TypeId} {vs : List Value} {u : Value} {gd : Nat × Bool} {t : Nat} {want : Bool} [T : FnTy P f] (ho : ops[i]? = some ⟨some d, .call { callee := .value (.func f), args := xs, argTypes := ts }, ty, ps, af, some gd⟩) (hg : gslot ops ⟨some d, .call { callee := .value (.func f), args := xs, argTypes := ts }, ty, ps, af, some gd⟩ = some (t, want)) (ht : fget F t = some (.bool want)) (hn : Nat.blt d n = true) (hvs : xs.toList.map (ev F) = vs.map some)
    (hc : ∀ w, St w0 S0 L w → Calls P f vs.toArray w (Post w No (Just u))) (hL : ∀ w, St w0 S0 L w → St w0 S0 Lk w) (h : RP P w0 S0 n ops Q Lk rest ((d, u) :: F) L) : RP P w0 S0 n ops Q Lk (.mk i false :: rest) F L :=
  p_lw ho hg ht fun R hR => l_q rfl hn (q_call rfl hvs hc) (hR _ _ hL h)
theorem p_call' {f : FuncId} {xs : Array Operand} {ts : Array TypeId} {vs : List Value} {G : Value → List HP → Prop} [T : FnTy P f] (ho : ops[i]? = some ⟨some d, .call { callee := .value (.func f), args := xs, argTypes := ts }, ty, ps, af, none⟩) (hn : Nat.blt d n = true) (hvs : xs.toList.map (ev F) = vs.map some)
    (hc : ∀ w, St w0 S0 L w → Calls P f vs.toArray w (Post w No G)) (h : ∀ v L', G v L' → (∀ w, St w0 S0 (L' ++ L) w → St w0 S0 Lk w) ∧ RP P w0 S0 n ops Q Lk rest ((d, v) :: F) (L' ++ L)) : RP P w0 S0 n ops Q Lk (.mk i false :: rest) F L :=
  p_l ho rfl fun R hR => l_call0 rfl rfl hn hvs hc fun v L' g => hR _ _ (h v L' g).1 (h v L' g).2
theorem p_st_box {x y : Operand} {t tb : TypeId} {b off j : Nat} {u : Value} {cs : List Value} [T : ScTy P t] (ho : ops[i]? = some ⟨none, .store t x y, ty, ps, af, none⟩) (hx : ev F x = some (.pointer (some ⟨b, off, none⟩))) (hA : L[j]? = some (boxHP b tb cs)) (hy : ev F y = some u) (hu : u.oneCell' = true) (hlt : off < cs.length) (hL : ∀ w, St w0 S0 (L.set j (boxHP b tb (cs.set off u))) w → St w0 S0 Lk w)
    (h : RP P w0 S0 n ops Q Lk rest F (L.set j (boxHP b tb (cs.set off u)))) : RP P w0 S0 n ops Q Lk (.mk i false :: rest) F L :=
  p_l ho rfl fun R hR => l_st_box rfl rfl hx hy hu hA hlt (hR _ _ hL h)
theorem p_stk_box {x y : Operand} {t tb : TypeId} {b off j k : Nat} {u : Value} {us cs : List Value} [T : AgTy P t k] (ho : ops[i]? = some ⟨none, .store t x y, ty, ps, af, none⟩) (hx : ev F x = some (.pointer (some ⟨b, off, none⟩))) (hA : L[j]? = some (boxHP b tb cs)) (hy : ev F y = some u) (hu : u.cells.toList = us) (hl : us.length = k) (h1 : ∀ u ∈ us, u.oneCell' = true) (hlt : off + k ≤ cs.length) (hL : ∀ w, St w0 S0 (L.set j (boxHP b tb (putL cs off us))) w → St w0 S0 Lk w)
    (h : RP P w0 S0 n ops Q Lk rest F (L.set j (boxHP b tb (putL cs off us)))) : RP P w0 S0 n ops Q Lk (.mk i false :: rest) F L :=
  p_l ho rfl fun R hR => l_stk_box rfl rfl hx hy hu hl h1 hA hlt T.size (hR _ _ hL h)
theorem p_st_row {x y : Operand} {t e : TypeId} {k sz m j : Nat} {s u : Value} {ys : List Value} [T : ScTy P t] (ho : ops[i]? = some ⟨none, .store t x y, ty, ps, af, none⟩) (hx : ev F x = some (pv s k)) (hA : L[j]? = some (rowHP s e sz m ys)) (hy : ev F y = some u) (hu : u.oneCell' = true) (hlt : k < m * sz) (hL : ∀ w, St w0 S0 (L.set j (rowHP s e sz m (ys.set k u))) w → St w0 S0 Lk w)
    (h : RP P w0 S0 n ops Q Lk rest F (L.set j (rowHP s e sz m (ys.set k u)))) : RP P w0 S0 n ops Q Lk (.mk i false :: rest) F L :=
  p_l ho rfl fun R hR => l_st_row rfl rfl hx hy hu hA hlt (hR _ _ hL h)
end
end
end Go.Sl
end
section
set_option linter.unusedVariables false
set_option linter.unusedSimpArgs false
namespace Go.Sl
open Go Go.RowKit
section
variable {P : Program} {w0 : World} {S0 : FS} {n : Nat} {F : List (Nat × Value)} {L Lk : List HP} {ops : Array Oper} {Q : Exit → Act → World → Prop} [HasD n]
/-- the end of the first phase: what the second one asks -/
def cutK (P : Program) (ops : Array Oper) (Q : Exit → Act → World → Prop) (plan : List PI) : Exit → Act → World → Prop
  | .normal, a, w => ∃ S : World → Prop, S w ∧ PW P ops Q S plan a w
  | e, a, w => Q e a w
instance {plan : List PI} [T : PO Q] : PO (cutK P ops Q plan) := ⟨fun c a d v w h => T.ok c a d v w h⟩
end
end Go.Sl
end
section
set_option linter.unusedVariables false
set_option linter.unusedSimpArgs false
namespace Go.Sl
open Go Go.RowKit
section
variable {P : Program} {w0 : World} {S0 : FS} {n : Nat} {F : List (Nat × Value)} {L Lk : List HP} {ops : Array Oper} {Q : Exit → Act → World → Prop} [HasD n]
/-- the end of the first phase -/
def cutK3 (P : Program) (ops : Array Oper) (Q : Exit → Act → World → Prop) (T : World → Prop) (plan : List PI) : Exit → Act → World → Prop
  | .normal, a, w => ∃ S : World → Prop, S w ∧ (∀ w, S w → T w) ∧ PW P ops Q S plan a w
  | e, a, w => Q e a w
instance {T : World → Prop} {plan : List PI} [T' : PO Q] : PO (cutK3 P ops Q T plan) := ⟨fun c a d v w h => T'.ok c a d v w h⟩
/-- the end of what is taken first -/
def cutK0 (P : Program) (ops : Array Oper) (Q : Exit → Act → World → Prop) (T : World → Prop) (plan1 plan2 : List PI) : Exit → Act → World → Prop
  | .normal, a, w => ∃ S : World → Prop, S w ∧ (∀ w, S w → T w) ∧ PW P ops (cutK3 P ops Q T plan2) S plan1 a w
  | e, a, w => Q e a w
instance {T : World → Prop} {plan1 plan2 : List PI} [T' : PO Q] : PO (cutK0 P ops Q T plan1 plan2) := ⟨fun c a d v w h => T'.ok c a d v w h⟩
end
section
variable {P : Program} {w0 : World} {S0 : FS} {n : Nat} {F : List (Nat × Value)} {L Lk : List HP} {o : Oper} {ops : Array Oper} {Q : Exit → Act → World → Prop} {d i : Nat} {plan rest : List PI} {R : Act → World → Prop} {ty : TypeId} {ps : String} {af : Array Edge} [HasD n]
theorem l_lendv {f : FuncId} {c : Operand} {xs : Array Operand} {ts : Array TypeId} {vs pre caps : List Value} {G : Value → List HP → Prop} (L0 Lr : List HP) (hLL : L = L0 ++ Lr) (ho : o.op = .call { callee := .value c, args := xs, argTypes := ts }) (hd : o.dst = some d) (hn : Nat.blt d n = true) (hcv : ev F c = some (.func (.func f) pre.toArray caps.toArray)) (hvs : xs.toList.map (ev F) = vs.map some) [T : FnTy P f]
    (hc : ∀ w S, Lent w0 S0 L0 Lr S w → Calls P f (pre ++ vs ++ caps).toArray w (Post w S G)) (h : ∀ v L', G v L' → Reach w0 S0 n ((d, v) :: F) (L' ++ Lr) R) : Reach w0 S0 n F L (fun a w => o.wp P a w R Q) := by
  subst hLL
  intro a w hf hs
  have hr := callv_run (P := P) (w := w) hf ho hcv hvs
  unfold Oper.wp
  rw [hr, Oper.upon_enter]
  obtain ⟨S, Sr, Sf, hm0, hs0, hsr, hSf, hSr, hdis⟩ := hs.lend
  refine (hc w S ⟨hs0, ⟨Sf, hm0, hSf⟩, ⟨Sr, hsr, hdis⟩⟩).mono ?_
  rintro e w' ⟨u, L', g, rfl, S', hm, hl⟩
  refine h u L' g _ _ (by rw [hd]; exact hf.put hn) ?_
  have hsr' : sats Lr Sr w' := sats_move (fun k hk hlt => hm.keep k hlt (fun h => hdis k h hk)) hsr
  refine ⟨fun k => S' k ∨ Sr k, hm0.trans ⟨hm.os, hm.tape, hm.output, hm.drawn, hm.size, fun k hk hn => hm.keep k hk (fun h => hn (hSf k h)), ?_⟩, sats_append hl hsr' ?_⟩
  · rintro k (hk | hk)
    · exact (hm.new k hk).imp (hSf k) id
    · exact .inl (hSr k hk).1
  · intro k hk hk2
    rcases hm.new k hk with h | h
    · exact hdis k h hk2
    · have := (hSr k hk2).2; omega
end
end Go.Sl
end
section
set_option linter.unusedVariables false
set_option linter.unusedSimpArgs false
namespace Go.Sl
open Go Go.RowKit
/-- a type that is no interface -/
class NoIf (P : Program) (t : TypeId) : Prop where
  u : ∃ d, P.underlying t = some d ∧ ∀ ms, d ≠ .interface ms
class IfTy (P : Program) (t : TypeId) : Prop where
  u : ∃ ms, P.underlying t = some (.interface ms)
class PtTy (P : Program) (t : TypeId) : Prop where
  u : ∃ te, P.underlying t = some (.pointer te)
section
variable {P : Program} {w0 : World} {S0 : FS} {n : Nat} {F : List (Nat × Value)} {L : List HP} {o : Oper} {rest : List Oper} {ops : Array Oper} {Q : Exit → Act → World → Prop} {d : Nat} {v : Value} {x y : Operand} {t t' : TypeId} {R : Act → World → Prop} [HasD n]
theorem args_eval {a : Act} {xs : Array Operand} {vs : List Value} (hf : Fr F n a) (hvs : xs.toList.map (ev F) = vs.map some) : xs.map a.eval = vs.toArray := by
  have : ∀ (l : List Operand) (us : List Value), l.map (ev F) = us.map some → l.map a.eval = us := by
    intro l
    induction l with
    | nil => intro us hu; cases us with | nil => rfl | cons _ _ => simp at hu
    | cons x l ih =>
      intro us hu
      cases us with
      | nil => simp at hu
      | cons u us =>
        simp only [List.map_cons, List.cons.injEq] at hu ⊢
        exact ⟨hf.eval hu.1, ih us hu.2⟩
  obtain ⟨l⟩ := xs
  rw [List.map_toArray, this l vs hvs]
theorem q_iface {u : Value} [T : NoIf P t] (ho : o.op = .makeInterface t x) (hx : ev F x = some u) : R1 P w0 S0 n F L o (.iface t u) :=
  q_of_pure fun a hf w => by
    obtain ⟨d, hd, hm⟩ := T.u
    have e : (Instr.makeInterface t u).run P w = .ok (.iface t u) w := by
      unfold Instr.makeInterface
      simp only [Sem.run_bind, run_under hd, Result.andThen_ok]
      cases d <;> first | rfl | exact absurd rfl (hm _)
    simp [execOp, ho, hf.eval hx, e]
theorem q_assert {u : Value} {xt : TypeId} (h : ∀ w, (Instr.typeAssert u xt t true).run P w = .ok v w) (ho : o.op = .typeAssert x xt t true) (hx : ev F x = some u) : R1 P w0 S0 n F L o v :=
  q_of_pure fun a hf w => by simp [execOp, ho, hf.eval hx, h w]
theorem q_nil_t [T : IfTy P t] (ho : o.op = .binOp .eql t x (.const .nilIface) t') (hx : ev F x = some .nilIface) : R1 P w0 S0 n F L o (.bool true) :=
  q_of_pure fun a hf w => by
    obtain ⟨ms, hm⟩ := T.u
    have h : ∀ d : Nat, (Op.equalIn (d + 1) t .nilIface .nilIface).run P w = .ok true w := fun d => by simp [Op.equalIn, run_underlying hm]
    have e : a.eval (.const .nilIface) = .nilIface := rfl
    simp only [execOp, ho, hf.eval hx, e, eqGuard, binOp]
    simp [Op.equal, Op.maxDepth, h 9999]
theorem q_nil_f {tu : TypeId} {u : Value} [T : IfTy P t] (ho : o.op = .binOp .eql t x (.const .nilIface) t') (hx : ev F x = some (.iface tu u)) : R1 P w0 S0 n F L o (.bool false) :=
  q_of_pure fun a hf w => by
    obtain ⟨ms, hm⟩ := T.u
    have h : ∀ d : Nat, (Op.equalIn (d + 1) t (.iface tu u) .nilIface).run P w = .ok false w := fun d => by simp [Op.equalIn, run_underlying hm]
    have e : a.eval (.const .nilIface) = .nilIface := rfl
    simp only [execOp, ho, hf.eval hx, e, eqGuard, binOp]
    simp [Op.equal, Op.maxDepth, h 9999]
theorem q_nonnil_t [T : IfTy P t] (ho : o.op = .binOp .neq t x (.const .nilIface) t') (hx : ev F x = some .nilIface) : R1 P w0 S0 n F L o (.bool false) :=
  q_of_pure fun a hf w => by
    obtain ⟨ms, hm⟩ := T.u
    have h : ∀ d : Nat, (Op.equalIn (d + 1) t .nilIface .nilIface).run P w = .ok true w := fun d => by simp [Op.equalIn, run_underlying hm]
    have e : a.eval (.const .nilIface) = .nilIface := rfl
    simp only [execOp, ho, hf.eval hx, e, eqGuard, binOp]
    simp [Op.equal, Op.maxDepth, h 9999]
theorem q_nonnil_f {tu : TypeId} {u : Value} [T : IfTy P t] (ho : o.op = .binOp .neq t x (.const .nilIface) t') (hx : ev F x = some (.iface tu u)) : R1 P w0 S0 n F L o (.bool true) :=
  q_of_pure fun a hf w => by
    obtain ⟨ms, hm⟩ := T.u
    have h : ∀ d : Nat, (Op.equalIn (d + 1) t (.iface tu u) .nilIface).run P w = .ok false w := fun d => by simp [Op.equalIn, run_underlying hm]
    have e : a.eval (.const .nilIface) = .nilIface := rfl
    simp only [execOp, ho, hf.eval hx, e, eqGuard, binOp]
    simp [Op.equal, Op.maxDepth, h 9999]
theorem q_seq {a1 a2 : ByteArray} (ho : o.op = .binOp .eql t x y t') (hx : ev F x = some (.string a1)) (hy : ev F y = some (.string a2)) : R1 P w0 S0 n F L o (.bool (a1.toList == a2.toList)) :=
  q_of_pure fun a hf w => by
    simp only [execOp, ho, hf.eval hx, hf.eval hy, eqGuard, binOp, Op.stringOp]
    simp
theorem q_pnil_f {ad : Addr} [T : PtTy P t] (ho : o.op = .binOp .eql t x (.const (.pointer none)) t') (hx : ev F x = some (.pointer (some ad))) : R1 P w0 S0 n F L o (.bool false) :=
  q_of_pure fun a hf w => by
    obtain ⟨te, hu⟩ := T.u
    have h : ∀ d : Nat, (Op.equalIn (d + 1) t (.pointer (some ad)) (.pointer none)).run P w = .ok false w := fun d => by simp [Op.equalIn, run_underlying hu]
    have e : a.eval (.const (.pointer none)) = .pointer none := rfl
    simp only [execOp, ho, hf.eval hx, e, eqGuard, binOp]
    simp [Op.equal, Op.maxDepth, h 9999]
theorem q_nilck {ad : Addr} (ho : o.op = .nilCheck x) (hx : ev F x = some (.pointer (some ad))) : R1 P w0 S0 n F L o (.pointer (some ad)) :=
  q_of_pure fun a hf w => by simp [execOp, ho, hf.eval hx]
theorem rb_cell {w : World} {b off : Nat} {tb : TypeId} {cs : List Value} (hs : St w0 S0 L w) (hr : RB w0 S0 b tb cs) (hc : cs[off]? = some v) : w.cell? ⟨b, off, none⟩ = some v := by
  obtain ⟨S, hm, _⟩ := hs
  simp [World.cell?, hr w S hm, hc]
theorem box_cell {w : World} {b off : Nat} {tb : TypeId} {cs : List Value} (hs : St w0 S0 L w) (hL : boxHP b tb cs ∈ L) (hc : cs[off]? = some v) : w.cell? ⟨b, off, none⟩ = some v ∧ w.frozen? ⟨b, off, none⟩ = false := by
  obtain ⟨S, hsat⟩ := hs.mem hL
  have h2 : w.heap[b]? = some (.cells cs.toArray tb (0, 0)) := hsat.2
  exact ⟨by simp [World.cell?, h2, hc], by simp [World.frozen?, h2]⟩
theorem Lent.rb_old {w : World} {S : FS} {L0 Lr : List HP} {b : Nat} {t : TypeId} {cs : List Value} (h : Lent w0 S0 L0 Lr S w) (hr : RB w0 S0 b t cs) : RB w S b t cs := by
  intro w' S' hm
  obtain ⟨Sf, hm0, hS⟩ := h.old
  exact hr w' (fun k => Sf k ∨ S' k) (hm0.trans ⟨hm.os, hm.tape, hm.output, hm.drawn, hm.size, fun k hk hn => hm.keep k hk (fun h => hn (hS k h)), fun k hk => hk.elim .inl (fun h => (hm.new k h).imp (hS k) id)⟩)
theorem Lent.rb_own {w : World} {S : FS} {L0 Lr : List HP} {b : Nat} {t : TypeId} {cs : List Value} (h : Lent w0 S0 L0 Lr S w) (hL : boxHP b t cs ∈ Lr) : RB w S b t cs := by
  intro w' S' hm
  obtain ⟨Sr, hr, hd⟩ := h.rest
  have h2 : (boxHP b t cs).sat Sr w' := HP.keep (sats_mem hr hL) hd hm
  exact h2.2
/-- a variable of one cell, read -/
def RC (w0 : World) (S0 : FS) (b : Nat) (v : Value) : Prop := ∀ w S, Mod w0 S0 w S → w.cell? ⟨b, 0, none⟩ = some v
theorem RC.old {w : World} {b : Nat} (hs : St w0 S0 L w) (hr : RC w0 S0 b v) : RC w No b v := by
  intro w' S' hm
  obtain ⟨S, hm0, _⟩ := hs
  exact hr w' (fun k => S k ∨ S' k) (hm0.trans ⟨hm.os, hm.tape, hm.output, hm.drawn, hm.size, fun k hk _ => hm.keep k hk (fun h => h), fun k hk => hk.imp id (fun h => (hm.new k h).elim (fun h => h.elim) id)⟩)
theorem RC.lent {w : World} {S : FS} {L0 Lr : List HP} {b : Nat} (h : Lent w0 S0 L0 Lr S w) (hr : RC w0 S0 b v) : RC w S b v := by
  intro w' S' hm
  obtain ⟨Sf, hm0, hS⟩ := h.old
  exact hr w' (fun k => Sf k ∨ S' k) (hm0.trans ⟨hm.os, hm.tape, hm.output, hm.drawn, hm.size, fun k hk hn => hm.keep k hk (fun h => hn (hS k h)), fun k hk => hk.elim .inl (fun h => (hm.new k h).imp (hS k) id)⟩)
theorem q_ld_rc {b : Nat} (hr : RC w0 S0 b v) (ho : o.op = .load t x) (hx : ev F x = some (.pointer (some ⟨b, 0, none⟩))) [T : ScTy P t] : R1 P w0 S0 n F L o v :=
  q_of_run fun a hf w hs => by
    obtain ⟨S, hm, _⟩ := hs
    simp only [execOp, ho, hf.eval hx, run_load1 (P := P) T.agg (hr w S hm), Sem.run_bind, Result.andThen_ok, Sem.run_pure]
theorem q_ext {f : FuncId} {xs : Array Operand} {ts : Array TypeId} {vs : List Value} (h : ∀ w, St w0 S0 L w → (callFunc f vs.toArray).run P w = .ok (.value v) w) (ho : o.op = .call { callee := .value (.func f), args := xs, argTypes := ts }) (hvs : xs.toList.map (ev F) = vs.map some) : R1 P w0 S0 n F L o v :=
  q_of_run fun a hf w hs => by
    have e : a.eval (.func f) = .func (.func f) #[] #[] := rfl
    simp only [execOp, ho, resolve, args_eval hf hvs, e, Deferred.ofValue, invoke, Sem.run_bind, Sem.run_pure, Result.andThen_ok, Array.append_empty, Array.empty_append, h w hs]
theorem q_inv {tu : TypeId} {u : Value} {nm : String} {xs : Array Operand} {ts : Array TypeId} {vs : List Value} (h : ∀ w, (callMethod (.iface tu u) nm vs.toArray).run P w = .ok (.value v) w) (ho : o.op = .call { callee := .invoke x nm, args := xs, argTypes := ts }) (hx : ev F x = some (.iface tu u)) (hvs : xs.toList.map (ev F) = vs.map some) : R1 P w0 S0 n F L o v :=
  q_of_pure fun a hf w => by
    have e : (#[Value.iface tu u] ++ vs.toArray).extract 1 (#[Value.iface tu u] ++ vs.toArray).size = vs.toArray := by
      apply Array.toList_inj.1; simp
    have e0 : (#[Value.iface tu u] ++ vs.toArray)[0]? = some (.iface tu u) := by simp
    simp only [execOp, ho, resolve, args_eval hf hvs, hf.eval hx, invoke, Sem.run_bind, Sem.run_pure, Result.andThen_ok, e0, e, h w]
/-- it makes one new block -/
theorem l_ext {f : FuncId} {xs : Array Operand} {ts : Array TypeId} {vs : List Value} {g : Nat → Value} {tb : TypeId} {cs : List Value} (h : ∀ w, St w0 S0 L w → (callFunc f vs.toArray).run P w = .ok (.value (g w.heap.size)) (w.alloc (.cells cs.toArray tb (0, 0)))) (ho : o.op = .call { callee := .value (.func f), args := xs, argTypes := ts }) (hd : o.dst = some d) (hn : Nat.blt d n = true) (hvs : xs.toList.map (ev F) = vs.map some)
    (hk : ∀ b, Reach w0 S0 n ((d, g b) :: F) (boxHP b tb cs :: L) R) : Reach w0 S0 n F L (fun a w => o.wp P a w R Q) := by
  refine l_loud fun a hf w hs => ⟨_, _, by
    have e : a.eval (.func f) = .func (.func f) #[] #[] := rfl
    simp only [execOp, ho, resolve, args_eval hf hvs, e, Deferred.ofValue, invoke, Sem.run_bind, Sem.run_pure, Result.andThen_ok, Array.append_empty, Array.empty_append, h w hs]; rfl, .inl ⟨_, rfl, _, _, by rw [hd]; exact hf.put hn, ?_, hk w.heap.size⟩⟩
  refine hs.push (M := [_]) (mod_alloc w _) ⟨fun k => w.heap.size ≤ k, fun _ => False, fun k hk => hk, fun k hk => hk.elim, fun k _ hk => hk, ⟨Nat.le_refl _, by simpa using heap_alloc_new w _⟩, trivial⟩
theorem o_ext {f : FuncId} {xs : Array Operand} {ts : Array TypeId} {vs : List Value} {g : Nat → Value} {tb : TypeId} {cs : List Value} {ty : TypeId} {ps : String} {af : Array Edge} (h : ∀ w, St w0 S0 L w → (callFunc f vs.toArray).run P w = .ok (.value (g w.heap.size)) (w.alloc (.cells cs.toArray tb (0, 0)))) (hn : Nat.blt d n = true) (hvs : xs.toList.map (ev F) = vs.map some)
    (hk : ∀ b, Reach w0 S0 n ((d, g b) :: F) (boxHP b tb cs :: L) (wpList P ops Q rest)) : Reach w0 S0 n F L (wpList P ops Q (⟨some d, .call { callee := .value (.func f), args := xs, argTypes := ts }, ty, ps, af, none⟩ :: rest)) :=
  s_of_l rfl fun R hR => l_ext h rfl rfl hn hvs (fun b => (hk b).imp hR)
/-- it turns one box -/
theorem o_extset {f : FuncId} {xs : Array Operand} {ts : Array TypeId} {vs : List Value} {b off i : Nat} {tb : TypeId} {cs : List Value} {u r : Value} {ty : TypeId} {ps : String} {af : Array Edge} (hL : L[i]? = some (boxHP b tb cs)) (h : ∀ w, St w0 S0 L w → (callFunc f vs.toArray).run P w = .ok (.value r) (w.setCell ⟨b, off, none⟩ u)) (hn : Nat.blt d n = true) (hvs : xs.toList.map (ev F) = vs.map some)
    (hk : Reach w0 S0 n ((d, r) :: F) (L.set i (boxHP b tb (cs.set off u))) (wpList P ops Q rest)) : Reach w0 S0 n F L (wpList P ops Q (⟨some d, .call { callee := .value (.func f), args := xs, argTypes := ts }, ty, ps, af, none⟩ :: rest)) :=
  s_of_l rfl fun R hR => l_loud fun a hf w hs => ⟨.value r, w.setCell ⟨b, off, none⟩ u, by
    have e : a.eval (.func f) = .func (.func f) #[] #[] := rfl
    simp only [execOp, resolve, args_eval hf hvs, e, Deferred.ofValue, invoke, Sem.run_bind, Sem.run_pure, Result.andThen_ok, Array.append_empty, Array.empty_append, h w hs], .inl ⟨_, rfl, _, _, hf.put hn, hs.step (A' := boxHP b tb (cs.set off u)) hL (fun S (hsat : (boxHP b tb cs).sat S w) => ⟨S, mod_setCell hsat.1, hsat.1, by
      have := setCell_blk (off := off) (u := u) hsat.2
      simpa using this⟩), hk.imp hR⟩⟩
/-- a method's call of a Go function that is lent nothing -/
theorem q_invk {f : FuncId} {tu : TypeId} {u uu : Value} {nm : String} {xs : Array Operand} {ts : Array TypeId} {vs ws : List Value} (h : ∀ w, (callMethod (.iface tu u) nm vs.toArray).run P w = .ok (.enter f ws.toArray) w) (hc : ∀ w, St w0 S0 L w → Calls P f ws.toArray w (Post w No (Just uu))) (ho : o.op = .call { callee := .invoke x nm, args := xs, argTypes := ts }) (hx : ev F x = some (.iface tu u)) (hvs : xs.toList.map (ev F) = vs.map some) : Q1 P w0 S0 n F L o uu := by
  intro a hf w hs
  have e : (#[Value.iface tu u] ++ vs.toArray).extract 1 (#[Value.iface tu u] ++ vs.toArray).size = vs.toArray := by
    apply Array.toList_inj.1; simp
  have e0 : (#[Value.iface tu u] ++ vs.toArray)[0]? = some (.iface tu u) := by simp
  have hr : (execOp a.eval o).run P w = .ok (.enter f ws.toArray) w := by
    simp only [execOp, ho, resolve, args_eval hf hvs, hf.eval hx, invoke, Sem.run_bind, Sem.run_pure, Result.andThen_ok, e0, e, h w]
  unfold Oper.quietAt
  rw [hr]
  refine ⟨rfl, (hc w hs).mono ?_⟩
  rintro e w' ⟨u', L', ⟨rfl, rfl⟩, rfl, S', hm, _⟩
  exact ⟨rfl, hs.same hm.below hm.drawn⟩
end
end Go.Sl
end
section
set_option linter.unusedVariables false
set_option linter.unusedSimpArgs false
namespace Go.Sl
open Go Go.RowKit
section
variable {P : Program} {w0 : World} {S0 : FS} {n : Nat} {F : List (Nat × Value)} {L : List HP} {o : Oper} {rest : List Oper} {ops : Array Oper} {Q : Exit → Act → World → Prop} {d : Nat} {v : Value} {x y : Operand} {t t' : TypeId} {R : Act → World → Prop} {i j : Int} [HasD n]
theorem q_quot (ho : o.op = .binOp .quo t x y t') (hx : ev F x = some (.int .i64 i)) (hy : ev F y = some (.int .i64 j)) (h : 0 < j) (hb : -9223372036854775808 ≤ i.tdiv j ∧ i.tdiv j ≤ 9223372036854775807) : R1 P w0 S0 n F L o (.int .i64 (i.tdiv j)) :=
  q_of_pure fun a hf w => by
    have hj : ¬ j = 0 := by omega
    have hw : IntKind.wrap .i64 (i.tdiv j) = i.tdiv j := wrap_id (by simpa [IntKind.min, IntKind.max, IntKind.signed, IntKind.bits] using hb)
    simp [execOp, ho, hf.eval hx, hf.eval hy, eqGuard, binOp, Op.intDiv, hj, hw]
end
end Go.Sl
end
section
set_option linter.unusedVariables false
set_option linter.unusedSimpArgs false
namespace Go.Sl
open Go Go.RowKit
/-- bytes of a string, as cells -/
def byV (l : List UInt8) : List Value := l.map fun b => .int .u8 (b.toNat : Int)
theorem byV_length (l : List UInt8) : (byV l).length = l.length := List.length_map ..
theorem byV_get {l : List UInt8} {k : Nat} {b : UInt8} (h : l[k]? = some b) : (byV l)[k]? = some (.int .u8 (b.toNat : Int)) := by simp [byV, h]
/-- what was made out of a string: its bytes; it's read alone -/
def bytesHP (v : Value) (l : List UInt8) : HP where
  sat S w := ∃ g off cap cur t fz, v = .slice (some ⟨g, off, none⟩) l.length cap ∧ S g ∧ w.heap[g]? = some (.cells cur t fz) ∧ l.length ≤ cap ∧ cap ≤ maxLen ∧ (cur.toList.drop off).take l.length = byV l
  mono h := fun ⟨g, off, cap, cur, t, fz, h1, h2, h3⟩ => ⟨g, off, cap, cur, t, fz, h1, h _ h2, h3⟩
  move h := fun ⟨g, off, cap, cur, t, fz, h1, h2, h3, h4⟩ => ⟨g, off, cap, cur, t, fz, h1, h2, (h _ h2 (Array.getElem?_eq_some_iff.1 h3).1).trans h3, h4⟩
  bound := fun ⟨g, off, cap, cur, t, fz, h1, h2, h3, h4⟩ => ⟨g, off, cap, cur, t, fz, h1, ⟨h2, (Array.getElem?_eq_some_iff.1 h3).1⟩, h3, h4⟩
theorem bytesHP_rd {v : Value} {l : List UInt8} {S : FS} {w : World} (h : (bytesHP v l).sat S w) : RdV w v (byV l) := by
  intro j u hj
  obtain ⟨g, off, cap, cur, t, fz, h1, h2, h3, _, _, h4⟩ := h
  refine ⟨g, off, l.length, cap, h1, ?_⟩
  have hlt : j < l.length := by have := (List.getElem?_eq_some_iff.1 hj).1; rwa [byV_length] at this
  rw [← h4, List.getElem?_take, if_pos hlt, List.getElem?_drop] at hj
  simp only [World.cell?, h3]
  simpa using hj
section
variable {P : Program} {w0 : World} {S0 : FS} {n : Nat} {F : List (Nat × Value)} {L : List HP} {o : Oper} {rest : List Oper} {ops : Array Oper} {Q : Exit → Act → World → Prop} {d : Nat} {v : Value} {x y z : Operand} {t t' : TypeId} {R : Act → World → Prop} {i j : Int} [HasD n]
theorem ro_bytes {w : World} {l : List UInt8} (hs : St w0 S0 L w) (hL : bytesHP v l ∈ L) : RO w No v (byV l) := by
  obtain ⟨S, hsat⟩ := hs.mem hL
  exact RO.of_rd (bytesHP_rd hsat)
theorem s_ld_bytes {l : List UInt8} {s : Value} {k : Nat} {b : UInt8} {ty : TypeId} {ps : String} {af : Array Edge} [T : ScTy P t] (hn : Nat.blt d n = true) (hx : ev F x = some (pv s k)) (hL : bytesHP s l ∈ L) (hb : l[k]? = some b)
    (h : Reach w0 S0 n ((d, .int .u8 (b.toNat : Int)) :: F) L (wpList P ops Q rest)) : Reach w0 S0 n F L (wpList P ops Q (⟨some d, .load t x, ty, ps, af, none⟩ :: rest)) :=
  s_q rfl rfl hn (q_ld_of (fun _ hs => (hs.mem hL).elim fun _ h => bytesHP_rd h) rfl hx (byV_get hb)).q h
/-- a byte of a string -/
theorem q_sidx {s : ByteArray} {k : IntKind} {b : UInt8} [T : StTy P t] (ho : o.op = .index t x y) (hx : ev F x = some (.string s)) (hy : ev F y = some (.int k i)) (h0 : 0 ≤ i) (hb : s.data.toList[i.toNat]? = some b) : R1 P w0 S0 n F L o (.int .u8 (b.toNat : Int)) :=
  q_of_pure fun a hf w => by
    have hlt : i.toNat < s.size := by have := (List.getElem?_eq_some_iff.1 hb).1; simpa using this
    have e : s[i.toNat]? = some b := by
      rw [getElem?_pos s i.toNat hlt]
      rw [Array.getElem?_toList] at hb
      rw [Array.getElem?_eq_getElem (by simpa using hlt)] at hb
      exact hb
    simp [execOp, ho, hf.eval hx, hf.eval hy, Instr.index, asIntOf, run_under T.u, h0, e]
/-- a part of a string -/
theorem q_scut {s : ByteArray} {lo hi : Option Operand} {a b : Nat} [T : StTy P t] (ho : o.op = .slice t x lo hi none) (hx : ev F x = some (.string s)) (hlo : match lo with | none => a = 0 | some p => ∃ k, ev F p = some (.int k (a : Int))) (hhi : match hi with | none => b = s.size | some p => ∃ k, ev F p = some (.int k (b : Int))) (hab : a ≤ b ∧ b ≤ s.size) : R1 P w0 S0 n F L o (.string (s.extract a b)) :=
  q_of_pure fun ac hf w => by
    obtain ⟨h1, h2⟩ := hab
    have e1 : (0 : Int) ≤ (a : Int) ∧ (a : Int) ≤ (b : Int) := by omega
    have e2 : (0 : Int) ≤ (b : Int) ∧ (b : Int) ≤ (s.size : Int) := by omega
    cases lo with
    | none =>
      subst hlo
      cases hi with
      | none => subst hhi; simp [execOp, ho, hf.eval hx, Instr.sliceAt, Instr.slice, run_under T.u, Instr.sliceBounds]
      | some q =>
        obtain ⟨k, hq⟩ := hhi
        simp [execOp, ho, hf.eval hx, hf.eval hq, Instr.sliceAt, Instr.slice, run_under T.u, Instr.sliceBounds, Instr.sliceBound, asIntOf, h2]
    | some p =>
      obtain ⟨k, hp⟩ := hlo
      cases hi with
      | none => subst hhi; simp [execOp, ho, hf.eval hx, hf.eval hp, Instr.sliceAt, Instr.slice, run_under T.u, Instr.sliceBounds, Instr.sliceBound, asIntOf, h1]
      | some q =>
        obtain ⟨k2, hq⟩ := hhi
        simp [execOp, ho, hf.eval hx, hf.eval hp, hf.eval hq, Instr.sliceAt, Instr.slice, run_under T.u, Instr.sliceBounds, Instr.sliceBound, asIntOf, h1, h2]
theorem q_scut_lo {s : ByteArray} {a : Nat} {k : IntKind} {p : Operand} [T : StTy P t] (ho : o.op = .slice t x (some p) none none) (hx : ev F x = some (.string s)) (hp : ev F p = some (.int k (a : Int))) (h : a ≤ s.size) : R1 P w0 S0 n F L o (.string (s.extract a s.size)) :=
  q_scut (lo := some p) (hi := none) (a := a) (b := s.size) ho hx ⟨k, hp⟩ rfl ⟨h, Nat.le_refl _⟩
theorem q_negi (ho : o.op = .unOp .neg t x) (hx : ev F x = some (.int .i64 i)) (hb : -9223372036854775808 ≤ -i ∧ -i ≤ 9223372036854775807) : R1 P w0 S0 n F L o (.int .i64 (-i)) := by
  have := q_neg (P := P) (w0 := w0) (S0 := S0) (n := n) (L := L) ho hx
  rwa [wrap_id (k := .i64) (by simpa [IntKind.min, IntKind.max, IntKind.signed, IntKind.bits] using hb)] at this
/-- bytes out of a string -/
theorem o_strb {e : TypeId} {s : ByteArray} {ty : TypeId} {ps : String} {af : Array Edge} (hs : P.underlying t = some .string) (hd : P.underlying t' = some (.slice e)) (he : P.underlying e = some (.int .u8)) (hn : Nat.blt d n = true) (hx : ev F x = some (.string s)) (hz : s.size ≤ 140737488351232)
    (h : ∀ v, Shp v s.data.toList.length → Reach w0 S0 n ((d, v) :: F) (bytesHP v s.data.toList :: L) (wpList P ops Q rest)) : Reach w0 S0 n F L (wpList P ops Q (⟨some d, .convert t t' x, ty, ps, af, none⟩ :: rest)) :=
  s_of_l rfl fun R hR => l_loud fun a hf w hst => by
    have r := run_bytes_of_string (P := P) w t t' e s hs hd he
    have hlen : s.data.toList.length = s.size := by simp
    have hcap : s.size ≤ grownCap w s.size 0 e ∧ grownCap w s.size 0 e ≤ maxLen := ⟨grownCap_ge .., grownCap_le_maxLen _ _ _ _ (by simp only [maxLen]; omega)⟩
    refine ⟨_, _, by simp only [execOp, hf.eval hx, r, Sem.run_bind, Result.andThen_ok, Sem.run_pure]; rfl, .inl ⟨_, rfl, _, _, hf.put hn, ?_, (h (.slice (some ⟨w.heap.size, 0, none⟩) s.size (grownCap w s.size 0 e)) ⟨by rw [hlen]; omega, .inr (.inl ⟨_, 0, _, by rw [hlen], by rw [hlen]; exact hcap.1, hcap.2⟩)⟩).imp hR⟩⟩
    refine hst.push (M := [_]) ⟨rfl, rfl, rfl, by show w.drawn ≤ w.drawn + 1; omega, by show w.heap.size ≤ (w.heap.push _).size; simp, fun k hk _ => by
      show (w.heap.push _)[k]? = _
      rw [Array.getElem?_push, if_neg (by omega)], fun _ h => .inr h⟩ ⟨fun k => w.heap.size ≤ k, fun _ => False, fun k hk => hk, fun k hk => hk.elim, fun k _ hk => hk, ?_, trivial⟩
    refine ⟨w.heap.size, 0, _, bytesRow s (grownCap w s.size 0 e), e, _, by rw [hlen], Nat.le_refl _, by show (w.heap.push _)[w.heap.size]? = _; rw [Array.getElem?_push, if_pos rfl], by rw [hlen]; exact hcap.1, hcap.2, ?_⟩
    simp [bytesRow, byV, hlen]
theorem freeze_blk {w : World} {g m : Nat} {cur : Array Value} {e : TypeId} (h : w.heap[g]? = some (.cells cur e (0, 0))) : (w.freeze ⟨g, m, none⟩ 1).heap[g]? = some (.cells cur e (m, m + 1)) := by
  have hlt := (Array.getElem?_eq_some_iff.1 h).1
  have h' := (Array.getElem?_eq_some_iff.1 h).2
  simp [World.freeze, Array.getElem?_modify, Array.getElem?_eq_getElem hlt, h']
theorem mod_freeze {w : World} {S : FS} {g m : Nat} (hg : S g) : Mod w S (w.freeze ⟨g, m, none⟩ 1) S := by
  unfold World.freeze
  rw [if_neg (by decide)]
  exact ⟨rfl, rfl, rfl, Nat.le_refl _, by simp, fun k hk hn => by
    simp only [Array.getElem?_modify]
    rw [if_neg (fun e => hn (by rw [← e]; exact hg))], fun k h => .inl h⟩
/-- a row of bytes that was a string's -/
theorem o_mark {e : TypeId} {m k : Nat} {s : Value} {l : List UInt8} {ty : TypeId} {ps : String} {af : Array Edge} (hd : P.underlying t = some (.slice e)) (he : P.underlying e = some (.int .u8)) (hn : Nat.blt d n = true) (hx : ev F x = some s) (hL : L[k]? = some (rowHP s e 1 m (byV l))) (h0 : 0 < m)
    (h : Shp s l.length → Reach w0 S0 n ((d, s) :: F) (L.set k (bytesHP s l)) (wpList P ops Q rest)) : Reach w0 S0 n F L (wpList P ops Q (⟨some d, .convert t t x, ty, ps, af, none⟩ :: rest)) :=
  s_of_l rfl fun R hR => l_loud fun a hf w hst => by
    obtain ⟨S, hsat⟩ := hst.mem (List.mem_of_getElem? hL)
    have hml : l.length = m := by have := hsat.1; rw [byV_length] at this; omega
    have hsh := rowHP_shp hsat
    rcases hsat.2 with ⟨_, rfl⟩ | ⟨g, off, cap, cur, q1, q2, q3, q4, q5, q6, q7⟩ | ⟨_, rfl⟩
    · omega
    · have hsp : w.shape? g = some (e, cur.size) := by unfold World.shape?; rw [q3]
      have r : (convert t t s).run P w = .ok s (w.freeze ⟨g, cur.size, none⟩ 1) := by
        rw [q1]
        simp [convert, run_underlying hd, run_underlying he, markStringish, hsp]
      refine ⟨_, _, by simp only [execOp, hf.eval hx, r, Sem.run_bind, Result.andThen_ok, Sem.run_pure]; rfl, .inl ⟨_, rfl, _, _, hf.put hn, ?_, (h (by rw [hml]; exact hsh)).imp hR⟩⟩
      refine hst.step hL fun S hsat => ?_
      rcases hsat.2 with ⟨_, rfl⟩ | ⟨g', off', cap', cur', p1, p2, p3, p4, p5, p6, p7⟩ | ⟨_, rfl⟩
      · omega
      · rw [q1] at p1
        simp only [Value.slice.injEq, Option.some.injEq, Addr.mk.injEq] at p1
        obtain ⟨⟨rfl, rfl, _⟩, _, rfl⟩ := p1
        exact ⟨S, mod_freeze p2, g, off, cap, cur', e, _, by rw [q1, hml], p2, freeze_blk p3, by omega, p5, by rw [hml]; simpa using p7⟩
      · omega
    · omega
end
end Go.Sl
end
section
set_option linter.unusedVariables false
set_option linter.unusedSimpArgs false
namespace Go.Sl
open Go Go.RowKit
theorem foldl_set (us : List Value) : ∀ (k off : Nat) (cells : Array Value), ((us.zipIdx k).foldl (fun (cs : Array Value) (p : Value × Nat) => cs.setIfInBounds (off + p.2) p.1) cells).toList = putL cells.toList (off + k) us := by
  induction us with
  | nil => intro k off cells; rfl
  | cons u us ih =>
    intro k off cells
    simp only [List.zipIdx_cons, List.foldl_cons, putL]
    rw [ih (k + 1) off, Array.toList_setIfInBounds, Nat.add_assoc]
theorem putL_all {α : Type} : ∀ (us : List α) (pre mid post : List α), mid.length = us.length → putL (pre ++ mid ++ post) pre.length us = pre ++ us ++ post
  | [], pre, mid, post, h => by
    have : mid = [] := List.eq_nil_of_length_eq_zero (by simpa using h)
    subst this; rfl
  | u :: us, pre, [], post, h => by simp at h
  | u :: us, pre, m :: mid, post, h => by
    have e : (pre ++ m :: mid ++ post).set pre.length u = (pre ++ [u]) ++ mid ++ post := by
      rw [List.append_assoc, List.append_assoc]
      rw [List.set_append_right _ _ (Nat.le_refl _)]
      simp
    rw [putL, e]
    have ih := putL_all us (pre ++ [u]) mid post (by simpa using h)
    rw [List.length_append, List.length_singleton] at ih
    rw [ih]
    simp
def idxs (us : List Value) (k : Nat) : List (Nat × Value) := (us.zipIdx k).map fun p => (p.2, p.1)
theorem fill_all (sz : Nat) : ∀ (us : List Value) (k : Nat) (cells : Array Value) (pre mid post : List Value), (∀ u ∈ us, u.cells.size = sz) → cells.toList = pre ++ mid ++ post → pre.length = k * sz → mid.length = us.length * sz →
    ∃ arr : Array Value, Instr.fill (fun i => some (i * sz, sz)) cells (idxs us k) = some arr ∧ arr.toList = pre ++ (us.flatMap fun u => u.cells.toList) ++ post
  | [], k, cells, pre, mid, post, _, hc, _, hm => ⟨cells, rfl, by
      have : mid = [] := List.eq_nil_of_length_eq_zero (by simpa using hm)
      subst this; simpa using hc⟩
  | u :: us, k, cells, pre, mid, post, hs, hc, hp, hm => by
    have hu := hs u (by simp)
    have hml : sz ≤ mid.length := by rw [hm, List.length_cons, Nat.succ_mul]; omega
    have hsize : cells.size = pre.length + mid.length + post.length := by rw [← Array.length_toList, hc]; simp; omega
    let arr := u.cells.zipIdx.foldl (fun (cs : Array Value) (p : Value × Nat) => cs.setIfInBounds (k * sz + p.2) p.1) cells
    have harr : arr.toList = (pre ++ u.cells.toList) ++ mid.drop sz ++ post := by
      have e : arr = ((u.cells.toList.zipIdx 0).foldl (fun (cs : Array Value) (p : Value × Nat) => cs.setIfInBounds (k * sz + p.2) p.1) cells) := by
        show u.cells.zipIdx.foldl _ cells = _
        rw [← Array.foldl_toList]
        simp
      rw [e, foldl_set, hc, Nat.add_zero, ← hp]
      have hul : u.cells.toList.length = sz := by rw [Array.length_toList, hu]
      have := putL_all u.cells.toList pre (mid.take sz) (mid.drop sz ++ post) (by rw [List.length_take, hul]; omega)
      rw [← List.append_assoc, List.append_assoc pre, List.take_append_drop] at this
      rw [this]
      simp
    obtain ⟨arr', h1, h2⟩ := fill_all sz us (k + 1) arr (pre ++ u.cells.toList) (mid.drop sz) post (fun u hu => hs u (by simp [hu])) harr (by simp [hp, hu, Nat.succ_mul]) (by rw [List.length_drop, hm, List.length_cons, Nat.succ_mul]; omega)
    refine ⟨arr', ?_, by rw [h2]; simp⟩
    have hne : ¬ (u.cells.size ≠ sz || k * sz + u.cells.size > cells.size) = true := by
      simp only [hu, ne_eq, not_true_eq_false, decide_false, Bool.false_or, decide_eq_true_eq]
      omega
    show Instr.fill _ cells ((k, u) :: idxs us (k + 1)) = _
    simp only [Instr.fill]
    rw [if_neg hne]
    exact h1
section
variable {P : Program} {w0 : World} {S0 : FS} {n : Nat} {F : List (Nat × Value)} {L Lk : List HP} {rest : List Oper} {ops : Array Oper} {Q : Exit → Act → World → Prop} {d i : Nat} {ty : TypeId} {ps : String} {af : Array Edge} {plan : List PI} [HasD n]
theorem run_mkrow {t e : TypeId} {z : Value} {sz bytes : Nat} [T : SlTy P t e z sz bytes] (us : List Value) (hus : ∀ u ∈ us, u.cells.size = sz) (hk : us.length * sz ≤ 16777216) (h0 : us ≠ []) (w : World) :
    (Instr.buildSlice t us.length (idxs us 0).toArray).run P w = .ok (.slice (some ⟨w.heap.size, 0, none⟩) us.length us.length) (w.alloc (.cells (us.flatMap fun u => u.cells.toList).toArray e (0, 0))) := by
  obtain ⟨i0, hi, hzz⟩ := Option.map_eq_some_iff.1 T.info
  simp only [Prod.mk.injEq] at hzz
  have hzero : (zeroValue e).run P w = .ok z w := by simp [zeroValue, typeInfo, hi, hzz.1]
  have hpos : ¬ us.length * sz = 0 := by
    have := T.pos
    have : 0 < us.length := by cases us with | nil => exact absurd rfl h0 | cons _ _ => simp
    exact Nat.ne_of_gt (Nat.mul_pos this T.pos)
  obtain ⟨arr, h1, h2⟩ := fill_all sz us 0 ((Array.range (us.length * sz)).map (z.cells[· % z.cells.size]!)) [] ((Array.range (us.length * sz)).map (z.cells[· % z.cells.size]!)).toList [] hus (by simp) (by simp) (by simp)
  have e2 : arr = (us.flatMap fun u => u.cells.toList).toArray := by
    apply Array.toList_inj.1
    simpa using h2
  have hk' : ¬ (16777216 < us.length * sz) := by omega
  subst e2
  simp only [Instr.buildSlice, Sem.run_bind, Sem.run_pure, run_under T.u, T.size, Result.andThen_ok]
  simp [hk', hpos, hzero, h1, run_newRow]
theorem l_mk {R : Act → World → Prop} {o : Oper} {parts : Array (Nat × Operand)} {t e : TypeId} {z : Value} {sz bytes k : Nat} [T : SlTy P t e z sz bytes] (us : List Value) (ho : o.op = .buildSlice t k parts) (hd : o.dst = some d) (hn : Nat.blt d n = true) (hp : parts.toList.map (fun p => (p.1, ev F p.2)) = (idxs us 0).map (fun p => (p.1, some p.2))) (hk : us.length = k) (hus : ∀ u ∈ us, u.cells.size = sz) (hb : k * sz ≤ 16777216) (h0 : us ≠ [])
    (h : ∀ v, Shp v k → Reach w0 S0 n ((d, v) :: F) (rowHP v e sz k (us.flatMap fun u => u.cells.toList) :: L) R) : Reach w0 S0 n F L (fun a w => o.wp P a w R Q) := by
  subst hk
  have hlen : ∀ us : List Value, (∀ u ∈ us, u.cells.size = sz) → (us.flatMap fun u => u.cells.toList).length = us.length * sz := by
    intro us
    induction us with
    | nil => simp
    | cons u us ih =>
      intro h
      rw [List.flatMap_cons, List.length_append, ih (fun u hu => h u (by simp [hu])), Array.length_toList, h u (by simp), List.length_cons, Nat.succ_mul, Nat.add_comm]
  refine l_mkrow ho hd hn (cs := us.flatMap fun u => u.cells.toList) (fun a hf w => ?_) (hlen us hus) (by have := Nat.le_mul_of_pos_right us.length T.pos; simp only [maxLen]; omega) h
  have : (parts.map fun (i, x) => (i, a.eval x)) = (idxs us 0).toArray := by
    have key : ∀ (l : List (Nat × Operand)) (m : List (Nat × Value)), l.map (fun p => (p.1, ev F p.2)) = m.map (fun p => (p.1, some p.2)) → l.map (fun (p : Nat × Operand) => (p.1, a.eval p.2)) = m := by
      intro l
      induction l with
      | nil => intro m hm; cases m with | nil => rfl | cons _ _ => simp at hm
      | cons x l ih =>
        intro m hm
        cases m with
        | nil => simp at hm
        | cons y m =>
          simp only [List.map_cons, List.cons.injEq, Prod.mk.injEq] at hm ⊢
          refine ⟨?_, ih m hm.2⟩
          rw [hf.eval hm.1.2, hm.1.1]
    obtain ⟨l⟩ := parts
    rw [List.map_toArray]
    exact congrArg List.toArray (key l _ hp)
  rw [this]
  exact run_mkrow us hus hb h0 w
theorem o_mk {parts : Array (Nat × Operand)} {t e : TypeId} {z : Value} {sz bytes k : Nat} [T : SlTy P t e z sz bytes] (us : List Value) (hn : Nat.blt d n = true) (hp : parts.toList.map (fun p => (p.1, ev F p.2)) = (idxs us 0).map (fun p => (p.1, some p.2))) (hk : us.length = k) (hus : ∀ u ∈ us, u.cells.size = sz) (hb : k * sz ≤ 16777216) (h0 : us ≠ [])
    (h : ∀ v, Shp v k → Reach w0 S0 n ((d, v) :: F) (rowHP v e sz k (us.flatMap fun u => u.cells.toList) :: L) (wpList P ops Q rest)) : Reach w0 S0 n F L (wpList P ops Q (⟨some d, .buildSlice t k parts, ty, ps, af, none⟩ :: rest)) :=
  s_of_l rfl fun R hR => l_mk us rfl rfl hn hp hk hus hb h0 fun v hv => (h v hv).imp hR
theorem p_mk {parts : Array (Nat × Operand)} {t e : TypeId} {z : Value} {sz bytes k : Nat} [T : SlTy P t e z sz bytes] (us : List Value) (ho : ops[i]? = some ⟨some d, .buildSlice t k parts, ty, ps, af, none⟩) (hn : Nat.blt d n = true) (hp : parts.toList.map (fun p => (p.1, ev F p.2)) = (idxs us 0).map (fun p => (p.1, some p.2))) (hk : us.length = k) (hus : ∀ u ∈ us, u.cells.size = sz) (hb : k * sz ≤ 16777216) (h0 : us ≠ []) (hL : ∀ w (A : HP), St w0 S0 (A :: L) w → St w0 S0 Lk w)
    (h : ∀ v, Shp v k → RP P w0 S0 n ops Q Lk plan ((d, v) :: F) (rowHP v e sz k (us.flatMap fun u => u.cells.toList) :: L)) : RP P w0 S0 n ops Q Lk (.mk i false :: plan) F L :=
  p_l ho rfl fun R hR => l_mk us rfl rfl hn hp hk hus hb h0 fun v hv => hR _ _ (fun w => hL w _) (h v hv)
end
end Go.Sl
end
section
set_option linter.unusedVariables false
namespace Go.Sl
open Go Go.RowKit
section
variable {P : Program} {w0 : World} {S0 : FS} {n : Nat} {F : List (Nat × Value)} {L Lk : List HP} {rest : List PI} {ops : Array Oper} {Q : Exit → Act → World → Prop} {d p : Nat} {v : Value} {ty : TypeId} {ps : String} {af : Array Edge} [HasD n]
def opAt : List Oper → Nat → Option Oper
  | [], _ => none
  | o :: _, 0 => some o
  | _ :: l, i + 1 => opAt l i
theorem opAt_eq : ∀ (l : List Oper) (i : Nat), opAt l i = l[i]?
  | [], _ => rfl
  | _ :: _, 0 => rfl
  | _ :: l, i + 1 => (opAt_eq l i).trans (by simp)
def RPo (P : Program) (w0 : World) (S0 : FS) (n : Nat) [HasD n] (ops : Array Oper) (Q : Exit → Act → World → Prop) (Lk : List HP) (o : Oper) (i : Nat) (t : Bool) (rest : List PI) (F : List (Nat × Value)) (L : List HP) : Prop :=
  ops[i]? = some o → RP P w0 S0 n ops Q Lk (.mk i t :: rest) F L
theorem p_at {i : Nat} {t : Bool} {o : Oper} (ho : opAt ops.toList i = some o) (h : RPo P w0 S0 n ops Q Lk o i t rest F L) : RP P w0 S0 n ops Q Lk (.mk i t :: rest) F L := h (by rw [opAt_eq] at ho; simpa using ho)
theorem t_skip {op : Op} {gd : Nat × Bool} {t : Nat} {want : Bool} {u0 : Value} (hg : gslot ops ⟨some d, op, ty, ps, af, some gd⟩ = some (t, want)) (ht : fget F t = some u0) (hb : skips u0 want = true) (hn : Nat.blt d n = true) (hL : ∀ w, St w0 S0 L w → St w0 S0 Lk w) (h : RP P w0 S0 n ops Q Lk rest ((d, undef) :: F) L) : RPo P w0 S0 n ops Q Lk ⟨some d, op, ty, ps, af, some gd⟩ p true rest F L := fun ho => p_skip ho hg ht hb rfl hn hL h
theorem t_skipl {op : Op} {gd : Nat × Bool} {t : Nat} {want : Bool} {u0 : Value} (hg : gslot ops ⟨some d, op, ty, ps, af, some gd⟩ = some (t, want)) (ht : fget F t = some u0) (hb : skips u0 want = true) (hn : Nat.blt d n = true) (hL : ∀ w, St w0 S0 L w → St w0 S0 Lk w) (h : RP P w0 S0 n ops Q Lk rest ((d, undef) :: F) L) : RPo P w0 S0 n ops Q Lk ⟨some d, op, ty, ps, af, some gd⟩ p false rest F L := fun ho => p_skipl ho hg ht hb rfl hn hL h
theorem t_case {op : Op} {ds : Option Tmp} {gd : Nat × Bool} {t : Nat} {want c : Bool} {q : Prop} [Decidable q] (hg : gslot ops ⟨ds, op, ty, ps, af, some gd⟩ = some (t, want)) (ht : fget F t = some (.bool (decide q)))
    (h1 : q → RP P w0 S0 n ops Q Lk (.mk p c :: rest) ((t, .bool true) :: F) L) (h2 : ¬ q → RP P w0 S0 n ops Q Lk (.mk p c :: rest) ((t, .bool false) :: F) L) : RPo P w0 S0 n ops Q Lk ⟨ds, op, ty, ps, af, some gd⟩ p c rest F L := fun ho => p_case ho hg ht h1 h2
theorem t_move {x : Operand}  (hn : Nat.blt d n = true) (hx : ev F x = some v) (hkeep : ∀ w, St w0 S0 L w → St w0 S0 Lk w) (h : RP P w0 S0 n ops Q Lk rest ((d, v) :: F) L) : RPo P w0 S0 n ops Q Lk ⟨some d, .move x, ty, ps, af, none⟩ p true rest F L := fun ho => p_q ho rfl rfl hn hkeep (q_move rfl hx) h
theorem tw_move {x : Operand} {gd : Nat × Bool} {u : Nat} {want : Bool}  (hg : gslot ops ⟨some d, .move x, ty, ps, af, some gd⟩ = some (u, want)) (ht : fget F u = some (.bool want)) (hn : Nat.blt d n = true) (hx : ev F x = some v) (hkeep : ∀ w, St w0 S0 L w → St w0 S0 Lk w) (h : RP P w0 S0 n ops Q Lk rest ((d, v) :: F) L) : RPo P w0 S0 n ops Q Lk ⟨some d, .move x, ty, ps, af, some gd⟩ p true rest F L := fun ho => p_want ho hg ht rfl hn hkeep (q_move rfl hx) h
theorem t_assign {x : Operand}  (hn : Nat.blt d n = true) (hx : ev F x = some v) (hkeep : ∀ w, St w0 S0 L w → St w0 S0 Lk w) (h : RP P w0 S0 n ops Q Lk rest ((d, v) :: F) L) : RPo P w0 S0 n ops Q Lk ⟨some d, .assign x, ty, ps, af, none⟩ p true rest F L := fun ho => p_q ho rfl rfl hn hkeep (q_assign rfl hx) h
theorem t_pick_t {c x y : Operand}  (hn : Nat.blt d n = true) (hc : ev F c = some (.bool true)) (hx : ev F x = some v) (hkeep : ∀ w, St w0 S0 L w → St w0 S0 Lk w) (h : RP P w0 S0 n ops Q Lk rest ((d, v) :: F) L) : RPo P w0 S0 n ops Q Lk ⟨some d, .pick c x y, ty, ps, af, none⟩ p true rest F L := fun ho => p_q ho rfl rfl hn hkeep (q_pick_t rfl hc hx) h
theorem t_pick_f {c x y : Operand}  (hn : Nat.blt d n = true) (hc : ev F c = some (.bool false)) (hx : ev F y = some v) (hkeep : ∀ w, St w0 S0 L w → St w0 S0 Lk w) (h : RP P w0 S0 n ops Q Lk rest ((d, v) :: F) L) : RPo P w0 S0 n ops Q Lk ⟨some d, .pick c x y, ty, ps, af, none⟩ p true rest F L := fun ho => p_q ho rfl rfl hn hkeep (q_pick_f rfl hc hx) h
theorem t_lss {t t' : TypeId} {x y : Operand} {k : IntKind} {i j : Int}  (hn : Nat.blt d n = true) (hx : ev F x = some (.int k i)) (hy : ev F y = some (.int k j)) (hkeep : ∀ w, St w0 S0 L w → St w0 S0 Lk w) (h : RP P w0 S0 n ops Q Lk rest ((d, .bool (decide (i < j))) :: F) L) : RPo P w0 S0 n ops Q Lk ⟨some d, .binOp .lss t x y t', ty, ps, af, none⟩ p true rest F L := fun ho => p_q ho rfl rfl hn hkeep (q_lss rfl hx hy) h
theorem tw_lss {t t' : TypeId} {x y : Operand} {k : IntKind} {i j : Int} {gd : Nat × Bool} {u : Nat} {want : Bool}  (hg : gslot ops ⟨some d, .binOp .lss t x y t', ty, ps, af, some gd⟩ = some (u, want)) (ht : fget F u = some (.bool want)) (hn : Nat.blt d n = true) (hx : ev F x = some (.int k i)) (hy : ev F y = some (.int k j)) (hkeep : ∀ w, St w0 S0 L w → St w0 S0 Lk w) (h : RP P w0 S0 n ops Q Lk rest ((d, .bool (decide (i < j))) :: F) L) : RPo P w0 S0 n ops Q Lk ⟨some d, .binOp .lss t x y t', ty, ps, af, some gd⟩ p true rest F L := fun ho => p_want ho hg ht rfl hn hkeep (q_lss rfl hx hy) h
theorem t_leq {t t' : TypeId} {x y : Operand} {k : IntKind} {i j : Int}  (hn : Nat.blt d n = true) (hx : ev F x = some (.int k i)) (hy : ev F y = some (.int k j)) (hkeep : ∀ w, St w0 S0 L w → St w0 S0 Lk w) (h : RP P w0 S0 n ops Q Lk rest ((d, .bool (decide (i ≤ j))) :: F) L) : RPo P w0 S0 n ops Q Lk ⟨some d, .binOp .leq t x y t', ty, ps, af, none⟩ p true rest F L := fun ho => p_q ho rfl rfl hn hkeep (q_leq rfl hx hy) h
theorem tw_leq {t t' : TypeId} {x y : Operand} {k : IntKind} {i j : Int} {gd : Nat × Bool} {u : Nat} {want : Bool}  (hg : gslot ops ⟨some d, .binOp .leq t x y t', ty, ps, af, some gd⟩ = some (u, want)) (ht : fget F u = some (.bool want)) (hn : Nat.blt d n = true) (hx : ev F x = some (.int k i)) (hy : ev F y = some (.int k j)) (hkeep : ∀ w, St w0 S0 L w → St w0 S0 Lk w) (h : RP P w0 S0 n ops Q Lk rest ((d, .bool (decide (i ≤ j))) :: F) L) : RPo P w0 S0 n ops Q Lk ⟨some d, .binOp .leq t x y t', ty, ps, af, some gd⟩ p true rest F L := fun ho => p_want ho hg ht rfl hn hkeep (q_leq rfl hx hy) h
theorem t_gtr {t t' : TypeId} {x y : Operand} {k : IntKind} {i j : Int}  (hn : Nat.blt d n = true) (hx : ev F x = some (.int k i)) (hy : ev F y = some (.int k j)) (hkeep : ∀ w, St w0 S0 L w → St w0 S0 Lk w) (h : RP P w0 S0 n ops Q Lk rest ((d, .bool (decide (j < i))) :: F) L) : RPo P w0 S0 n ops Q Lk ⟨some d, .binOp .gtr t x y t', ty, ps, af, none⟩ p true rest F L := fun ho => p_q ho rfl rfl hn hkeep (q_gtr rfl hx hy) h
theorem t_geq {t t' : TypeId} {x y : Operand} {k : IntKind} {i j : Int}  (hn : Nat.blt d n = true) (hx : ev F x = some (.int k i)) (hy : ev F y = some (.int k j)) (hkeep : ∀ w, St w0 S0 L w → St w0 S0 Lk w) (h : RP P w0 S0 n ops Q Lk rest ((d, .bool (decide (j ≤ i))) :: F) L) : RPo P w0 S0 n ops Q Lk ⟨some d, .binOp .geq t x y t', ty, ps, af, none⟩ p true rest F L := fun ho => p_q ho rfl rfl hn hkeep (q_geq rfl hx hy) h
theorem tw_eql {t t' : TypeId} {x y : Operand} {k : IntKind} {i j : Int} {gd : Nat × Bool} {u : Nat} {want : Bool}  (hg : gslot ops ⟨some d, .binOp .eql t x y t', ty, ps, af, some gd⟩ = some (u, want)) (ht : fget F u = some (.bool want)) (hn : Nat.blt d n = true) (hx : ev F x = some (.int k i)) (hy : ev F y = some (.int k j)) (hkeep : ∀ w, St w0 S0 L w → St w0 S0 Lk w) (h : RP P w0 S0 n ops Q Lk rest ((d, .bool (decide (i = j))) :: F) L) : RPo P w0 S0 n ops Q Lk ⟨some d, .binOp .eql t x y t', ty, ps, af, some gd⟩ p true rest F L := fun ho => p_want ho hg ht rfl hn hkeep (q_eql rfl hx hy) h
theorem t_neq {t t' : TypeId} {x y : Operand} {k : IntKind} {i j : Int}  (hn : Nat.blt d n = true) (hx : ev F x = some (.int k i)) (hy : ev F y = some (.int k j)) (hkeep : ∀ w, St w0 S0 L w → St w0 S0 Lk w) (h : RP P w0 S0 n ops Q Lk rest ((d, .bool (decide (i ≠ j))) :: F) L) : RPo P w0 S0 n ops Q Lk ⟨some d, .binOp .neq t x y t', ty, ps, af, none⟩ p true rest F L := fun ho => p_q ho rfl rfl hn hkeep (q_neq rfl hx hy) h
theorem t_add {t t' : TypeId} {x y : Operand} {i j : Int}  (hn : Nat.blt d n = true) (hx : ev F x = some (.int .i64 i)) (hy : ev F y = some (.int .i64 j)) (hb : -9223372036854775808 ≤ i + j ∧ i + j ≤ 9223372036854775807) (hkeep : ∀ w, St w0 S0 L w → St w0 S0 Lk w) (h : RP P w0 S0 n ops Q Lk rest ((d, .int .i64 (i + j)) :: F) L) : RPo P w0 S0 n ops Q Lk ⟨some d, .binOp .add t x y t', ty, ps, af, none⟩ p true rest F L := fun ho => p_q ho rfl rfl hn hkeep (q_add rfl hx hy hb) h
theorem tw_add {t t' : TypeId} {x y : Operand} {i j : Int} {gd : Nat × Bool} {u : Nat} {want : Bool}  (hg : gslot ops ⟨some d, .binOp .add t x y t', ty, ps, af, some gd⟩ = some (u, want)) (ht : fget F u = some (.bool want)) (hn : Nat.blt d n = true) (hx : ev F x = some (.int .i64 i)) (hy : ev F y = some (.int .i64 j)) (hb : -9223372036854775808 ≤ i + j ∧ i + j ≤ 9223372036854775807) (hkeep : ∀ w, St w0 S0 L w → St w0 S0 Lk w) (h : RP P w0 S0 n ops Q Lk rest ((d, .int .i64 (i + j)) :: F) L) : RPo P w0 S0 n ops Q Lk ⟨some d, .binOp .add t x y t', ty, ps, af, some gd⟩ p true rest F L := fun ho => p_want ho hg ht rfl hn hkeep (q_add rfl hx hy hb) h
theorem tw_sub {t t' : TypeId} {x y : Operand} {i j : Int} {gd : Nat × Bool} {u : Nat} {want : Bool}  (hg : gslot ops ⟨some d, .binOp .sub t x y t', ty, ps, af, some gd⟩ = some (u, want)) (ht : fget F u = some (.bool want)) (hn : Nat.blt d n = true) (hx : ev F x = some (.int .i64 i)) (hy : ev F y = some (.int .i64 j)) (hb : -9223372036854775808 ≤ i - j ∧ i - j ≤ 9223372036854775807) (hkeep : ∀ w, St w0 S0 L w → St w0 S0 Lk w) (h : RP P w0 S0 n ops Q Lk rest ((d, .int .i64 (i - j)) :: F) L) : RPo P w0 S0 n ops Q Lk ⟨some d, .binOp .sub t x y t', ty, ps, af, some gd⟩ p true rest F L := fun ho => p_want ho hg ht rfl hn hkeep (q_sub rfl hx hy hb) h
theorem t_min {tys : Array TypeId} {x y : Operand} {k : IntKind} {i j : Int}  (hn : Nat.blt d n = true) (hx : ev F x = some (.int k i)) (hy : ev F y = some (.int k j)) (hkeep : ∀ w, St w0 S0 L w → St w0 S0 Lk w) (h : RP P w0 S0 n ops Q Lk rest ((d, .int k (min i j)) :: F) L) : RPo P w0 S0 n ops Q Lk ⟨some d, .call { callee := .builtin .min, args := #[x, y], argTypes := tys }, ty, ps, af, none⟩ p true rest F L := fun ho => p_q ho rfl rfl hn hkeep (q_min rfl hx hy) h
theorem t_max {tys : Array TypeId} {x y : Operand} {k : IntKind} {i j : Int}  (hn : Nat.blt d n = true) (hx : ev F x = some (.int k i)) (hy : ev F y = some (.int k j)) (hkeep : ∀ w, St w0 S0 L w → St w0 S0 Lk w) (h : RP P w0 S0 n ops Q Lk rest ((d, .int k (max i j)) :: F) L) : RPo P w0 S0 n ops Q Lk ⟨some d, .call { callee := .builtin .max, args := #[x, y], argTypes := tys }, ty, ps, af, none⟩ p true rest F L := fun ho => p_q ho rfl rfl hn hkeep (q_max rfl hx hy) h
theorem tw_max {tys : Array TypeId} {x y : Operand} {k : IntKind} {i j : Int} {gd : Nat × Bool} {u : Nat} {want : Bool}  (hg : gslot ops ⟨some d, .call { callee := .builtin .max, args := #[x, y], argTypes := tys }, ty, ps, af, some gd⟩ = some (u, want)) (ht : fget F u = some (.bool want)) (hn : Nat.blt d n = true) (hx : ev F x = some (.int k i)) (hy : ev F y = some (.int k j)) (hkeep : ∀ w, St w0 S0 L w → St w0 S0 Lk w) (h : RP P w0 S0 n ops Q Lk rest ((d, .int k (max i j)) :: F) L) : RPo P w0 S0 n ops Q Lk ⟨some d, .call { callee := .builtin .max, args := #[x, y], argTypes := tys }, ty, ps, af, some gd⟩ p true rest F L := fun ho => p_want ho hg ht rfl hn hkeep (q_max rfl hx hy) h
theorem tw_len {t e : TypeId} {x : Operand} {s z : Value} {m sz bs : Nat} {gd : Nat × Bool} {u : Nat} {want : Bool} [T : SlTy P t e z sz bs] (hg : gslot ops ⟨some d, .call { callee := .builtin .len, args := #[x], argTypes := #[t] }, ty, ps, af, some gd⟩ = some (u, want)) (ht : fget F u = some (.bool want)) (hn : Nat.blt d n = true) (hx : ev F x = some s) (hs : Shp s m) (hkeep : ∀ w, St w0 S0 L w → St w0 S0 Lk w) (h : RP P w0 S0 n ops Q Lk rest ((d, .int .i64 m) :: F) L) : RPo P w0 S0 n ops Q Lk ⟨some d, .call { callee := .builtin .len, args := #[x], argTypes := #[t] }, ty, ps, af, some gd⟩ p true rest F L := fun ho => p_want ho hg ht rfl hn hkeep (q_len rfl hx hs) h
theorem t_idx {t e : TypeId} {x y : Operand} {s z : Value} {m sz bs i : Nat} {k : IntKind} [T : SlTy P t e z sz bs] (hn : Nat.blt d n = true) (hx : ev F x = some s) (hy : ev F y = some (.int k (i : Int))) (hs : Shp s m) (hi : i < m) (hkeep : ∀ w, St w0 S0 L w → St w0 S0 Lk w) (h : RP P w0 S0 n ops Q Lk rest ((d, pv s (i * sz)) :: F) L) : RPo P w0 S0 n ops Q Lk ⟨some d, .indexAddr t x y, ty, ps, af, none⟩ p true rest F L := fun ho => p_q ho rfl rfl hn hkeep (q_idx rfl hx hy hs hi) h
theorem tw_idx {t e : TypeId} {x y : Operand} {s z : Value} {m sz bs i : Nat} {k : IntKind} {gd : Nat × Bool} {u : Nat} {want : Bool} [T : SlTy P t e z sz bs] (hg : gslot ops ⟨some d, .indexAddr t x y, ty, ps, af, some gd⟩ = some (u, want)) (ht : fget F u = some (.bool want)) (hn : Nat.blt d n = true) (hx : ev F x = some s) (hy : ev F y = some (.int k (i : Int))) (hs : Shp s m) (hi : i < m) (hkeep : ∀ w, St w0 S0 L w → St w0 S0 Lk w) (h : RP P w0 S0 n ops Q Lk rest ((d, pv s (i * sz)) :: F) L) : RPo P w0 S0 n ops Q Lk ⟨some d, .indexAddr t x y, ty, ps, af, some gd⟩ p true rest F L := fun ho => p_want ho hg ht rfl hn hkeep (q_idx rfl hx hy hs hi) h
theorem t_idxi {t e : TypeId} {x y : Operand} {s z : Value} {m sz bs : Nat} {k : IntKind} {i : Int} [T : SlTy P t e z sz bs] (hn : Nat.blt d n = true) (hx : ev F x = some s) (hy : ev F y = some (.int k i)) (hs : Shp s m) (hi : 0 ≤ i ∧ i < (m : Int)) (hkeep : ∀ w, St w0 S0 L w → St w0 S0 Lk w) (h : RP P w0 S0 n ops Q Lk rest ((d, pv s (i.toNat * sz)) :: F) L) : RPo P w0 S0 n ops Q Lk ⟨some d, .indexAddr t x y, ty, ps, af, none⟩ p true rest F L := fun ho => p_q ho rfl rfl hn hkeep (q_idxi rfl hx hy hs hi) h
theorem tw_idxi {t e : TypeId} {x y : Operand} {s z : Value} {m sz bs : Nat} {k : IntKind} {i : Int} {gd : Nat × Bool} {u : Nat} {want : Bool} [T : SlTy P t e z sz bs] (hg : gslot ops ⟨some d, .indexAddr t x y, ty, ps, af, some gd⟩ = some (u, want)) (ht : fget F u = some (.bool want)) (hn : Nat.blt d n = true) (hx : ev F x = some s) (hy : ev F y = some (.int k i)) (hs : Shp s m) (hi : 0 ≤ i ∧ i < (m : Int)) (hkeep : ∀ w, St w0 S0 L w → St w0 S0 Lk w) (h : RP P w0 S0 n ops Q Lk rest ((d, pv s (i.toNat * sz)) :: F) L) : RPo P w0 S0 n ops Q Lk ⟨some d, .indexAddr t x y, ty, ps, af, some gd⟩ p true rest F L := fun ho => p_want ho hg ht rfl hn hkeep (q_idxi rfl hx hy hs hi) h
theorem t_fa {x : Operand} {t : TypeId} {i b off fo k : Nat} {ag : Bool} [T : FdTy P t i fo k ag] (hn : Nat.blt d n = true) (hx : ev F x = some (.pointer (some ⟨b, off, none⟩))) (hkeep : ∀ w, St w0 S0 L w → St w0 S0 Lk w) (h : RP P w0 S0 n ops Q Lk rest ((d, .pointer (some ⟨b, off + fo, none⟩)) :: F) L) : RPo P w0 S0 n ops Q Lk ⟨some d, .fieldAddr t x i, ty, ps, af, none⟩ p true rest F L := fun ho => p_q ho rfl rfl hn hkeep (q_fa rfl hx) h
theorem t_fap {x : Operand} {t : TypeId} {i k m fo sz : Nat} {s : Value} {ag : Bool} [T : FdTy P t i fo sz ag] (hn : Nat.blt d n = true) (hx : ev F x = some (pv s k)) (hs : Shp s m) (hm : 0 < m) (hkeep : ∀ w, St w0 S0 L w → St w0 S0 Lk w) (h : RP P w0 S0 n ops Q Lk rest ((d, pv s (k + fo)) :: F) L) : RPo P w0 S0 n ops Q Lk ⟨some d, .fieldAddr t x i, ty, ps, af, none⟩ p true rest F L := fun ho => p_q ho rfl rfl hn hkeep (q_fap rfl hx hs hm) h
theorem t_ld_box {x : Operand} {t tb : TypeId} {b off : Nat} {cs : List Value} [T : ScTy P t] (hn : Nat.blt d n = true) (hx : ev F x = some (.pointer (some ⟨b, off, none⟩))) (hL : boxHP b tb cs ∈ Lk) (hc : cs[off]? = some v) (hkeep : ∀ w, St w0 S0 L w → St w0 S0 Lk w) (h : RP P w0 S0 n ops Q Lk rest ((d, v) :: F) L) : RPo P w0 S0 n ops Q Lk ⟨some d, .load t x, ty, ps, af, none⟩ p true rest F L := fun ho => p_q ho rfl rfl hn hkeep (q_ld_box rfl hx hL hc) h
theorem t_ldk_box {x : Operand} {t tb : TypeId} {b off k : Nat} {cs us : List Value} [T : AgTy P t k] (hn : Nat.blt d n = true) (hx : ev F x = some (.pointer (some ⟨b, off, none⟩))) (hL : boxHP b tb cs ∈ Lk) (hc : (cs.drop off).take k = us) (hl : us.length = k) (hkeep : ∀ w, St w0 S0 L w → St w0 S0 Lk w) (h : RP P w0 S0 n ops Q Lk rest ((d, .agg us.toArray) :: F) L) : RPo P w0 S0 n ops Q Lk ⟨some d, .load t x, ty, ps, af, none⟩ p true rest F L := fun ho => p_q ho rfl rfl hn hkeep (q_ldk_box rfl hx hL hl hc) h
theorem t_ld_row {x : Operand} {t e : TypeId} {k sz m : Nat} {s : Value} {ys : List Value} [T : ScTy P t] (hn : Nat.blt d n = true) (hx : ev F x = some (pv s k)) (hL : rowHP s e sz m ys ∈ Lk) (hc : ys[k]? = some v) (hkeep : ∀ w, St w0 S0 L w → St w0 S0 Lk w) (h : RP P w0 S0 n ops Q Lk rest ((d, v) :: F) L) : RPo P w0 S0 n ops Q Lk ⟨some d, .load t x, ty, ps, af, none⟩ p true rest F L := fun ho => p_q ho rfl rfl hn hkeep (q_ld_row rfl hx hL hc) h
theorem tw_ld_row {x : Operand} {t e : TypeId} {k sz m : Nat} {s : Value} {ys : List Value} {gd : Nat × Bool} {u : Nat} {want : Bool} [T : ScTy P t] (hg : gslot ops ⟨some d, .load t x, ty, ps, af, some gd⟩ = some (u, want)) (ht : fget F u = some (.bool want)) (hn : Nat.blt d n = true) (hx : ev F x = some (pv s k)) (hL : rowHP s e sz m ys ∈ Lk) (hc : ys[k]? = some v) (hkeep : ∀ w, St w0 S0 L w → St w0 S0 Lk w) (h : RP P w0 S0 n ops Q Lk rest ((d, v) :: F) L) : RPo P w0 S0 n ops Q Lk ⟨some d, .load t x, ty, ps, af, some gd⟩ p true rest F L := fun ho => p_want ho hg ht rfl hn hkeep (q_ld_row rfl hx hL hc) h
theorem tw_ldk_row {x : Operand} {t e : TypeId} {k z sz m : Nat} {s : Value} {ys us : List Value} {gd : Nat × Bool} {u : Nat} {want : Bool} [T : AgTy P t sz] (hg : gslot ops ⟨some d, .load t x, ty, ps, af, some gd⟩ = some (u, want)) (ht : fget F u = some (.bool want)) (hn : Nat.blt d n = true) (hx : ev F x = some (pv s k)) (hL : rowHP s e z m ys ∈ Lk) (h0 : 0 < sz) (hc : (ys.drop k).take sz = us) (hl : us.length = sz) (hkeep : ∀ w, St w0 S0 L w → St w0 S0 Lk w) (h : RP P w0 S0 n ops Q Lk rest ((d, .agg us.toArray) :: F) L) : RPo P w0 S0 n ops Q Lk ⟨some d, .load t x, ty, ps, af, some gd⟩ p true rest F L := fun ho => p_want ho hg ht rfl hn hkeep (q_ldk_row rfl hx hL h0 hl hc) h
theorem p_buildt {t : TypeId} {parts : Array (Nat × Operand)} {z : Value} {pl : List (Nat × Nat)} {i : Nat} [T : BdTy P t z pl] (us : List (Nat × Value × List Value)) {cs : List Value} (ho : ops[i]? = some ⟨some d, .build t parts, ty, ps, af, none⟩) (hn : Nat.blt d n = true) (hp : parts.toList.map (fun p => (p.1, ev F p.2)) = us.map (fun q => (q.1, some q.2.1))) (hc : ∀ q ∈ us, q.2.1.cells.toList = q.2.2) (hb : bld pl z.cells.toList (us.map fun q => (q.1, q.2.2)) = some cs) (hkeep : ∀ w, St w0 S0 L w → St w0 S0 Lk w) (h : RP P w0 S0 n ops Q Lk rest ((d, .agg cs.toArray) :: F) L) : RP P w0 S0 n ops Q Lk (.mk i true :: rest) F L := p_q ho rfl rfl hn hkeep (q_build us rfl hp hc hb) h
end
end Go.Sl
end
section
set_option linter.unusedVariables false
set_option linter.unusedSimpArgs false
namespace Go.Sl
open Go Go.RowKit
section
variable {P : Program} {w0 : World} {S0 : FS} {n : Nat} {F : List (Nat × Value)} {L Lk : List HP} {Q : Exit → Act → World → Prop} [HasD n]
def cutQ {X : Type} (w0 : World) (S0 : FS) (n : Nat) [HasD n] (I : X → Prop) (IF : X → List (Nat × Value)) (IL : X → List HP) (Q : Exit → Act → World → Prop) : Exit → Act → World → Prop
  | .normal, a, w => ∃ x, I x ∧ Fr (IF x) n a ∧ St w0 S0 (IL x) w
  | e, a, w => Q e a w
instance {X : Type} {I : X → Prop} {IF : X → List (Nat × Value)} {IL : X → List HP} [T : PO Q] : PO (cutQ w0 S0 n I IF IL Q) := ⟨fun c a d v w h => T.ok c a d v w h⟩
end
end Go.Sl
end
