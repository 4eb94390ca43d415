/- Of ColourNames: part 2: what the walks rest on, contracts of functions and plain lemmas; no condition but those that each states. -/
import Derived.Test.YtpajjnkmaebhcabGreatCn1
import Derived.Maps.Keyed
import Derived.Maps.RangeRun
import Derived.Laws.Cover3
import Derived.Test.YtpajjnkmaebhcabGreatProg
import Derived.Laws.StructEq
import Derived.Laws.Shifts
import Derived.Shelf.SortM.Plain
import Derived.Shelf.SortM.SortNone
import Derived.Shelf.SlGeneric
import Derived.Ground.SlgmProg
import Derived.Sort.OwnSortedInts
set_option linter.unusedVariables false
set_option linter.unusedSimpArgs false
section
set_option linter.unusedVariables false
set_option linter.unusedSimpArgs false
set_option linter.unusedSectionVars false
namespace Go.Sl
open Go Go.RowKit Go.Maps
open Go.ChangeMaps (setBlock)
section
variable {α β : Type} [DecidableEq α]
def getK (ks : List (α × β)) (a : α) : Option β := (ks.find? fun p => p.1 = a).map (·.2)
def putK (ks : List (α × β)) (a : α) (b : β) : List (α × β) := if a ∈ ks.map Prod.fst then ks.map (fun p => if p.1 = a then (a, b) else p) else ks ++ [(a, b)]
def delK (ks : List (α × β)) (a : α) : List (α × β) := ks.filter fun p => p.1 ≠ a
theorem getK_none {ks : List (α × β)} {a : α} (h : a ∉ ks.map Prod.fst) : getK ks a = none := by
  rw [getK, List.find?_eq_none.2, Option.map_none]
  intro p hp
  simp only [decide_eq_true_eq]
  exact fun e => h (List.mem_map.2 ⟨p, hp, e⟩)
theorem getK_some {ks : List (α × β)} {a : α} {b : β} (hn : (ks.map Prod.fst).Nodup) (h : (a, b) ∈ ks) : getK ks a = some b := by
  induction ks with
  | nil => simp at h
  | cons p ks ih =>
    rw [List.map_cons, List.nodup_cons] at hn
    rcases List.mem_cons.1 h with rfl | h
    · simp [getK]
    · have hne : p.1 ≠ a := fun e => hn.1 (by rw [e]; exact List.mem_map.2 ⟨(a, b), h, rfl⟩)
      have := ih hn.2 h
      simp only [getK, List.find?_cons, hne, decide_false] at this ⊢
      exact this
theorem putK_new {ks : List (α × β)} {a : α} {b : β} (h : a ∉ ks.map Prod.fst) : putK ks a b = ks ++ [(a, b)] := if_neg h
theorem putK_keys (ks : List (α × β)) (a : α) (b : β) : (putK ks a b).map Prod.fst = if a ∈ ks.map Prod.fst then ks.map Prod.fst else ks.map Prod.fst ++ [a] := by
  unfold putK
  split
  · rw [List.map_map]
    apply List.map_congr_left
    intro p _
    simp only [Function.comp_apply]
    split
    · rename_i h; exact h.symm
    · rfl
  · simp
theorem putK_nodup {ks : List (α × β)} {a : α} {b : β} (hn : (ks.map Prod.fst).Nodup) : ((putK ks a b).map Prod.fst).Nodup := by
  rw [putK_keys]
  split
  · exact hn
  · rename_i h
    exact List.nodup_append.2 ⟨hn, by simp, fun x hx y hy e => by
      obtain rfl : y = a := by simpa using hy
      exact h (e ▸ hx)⟩
theorem putK_ok {ks : List (α × β)} {a : α} {b : β} {ok : α → Prop} (h : ∀ p ∈ ks, ok p.1) (ha : ok a) : ∀ p ∈ putK ks a b, ok p.1 := by
  intro p hp
  have : p.1 ∈ (putK ks a b).map Prod.fst := List.mem_map.2 ⟨p, hp, rfl⟩
  rw [putK_keys] at this
  have hk : p.1 ∈ ks.map Prod.fst ∨ p.1 = a := by
    split at this
    · exact .inl this
    · simpa using this
  rcases hk with h1 | h1
  · obtain ⟨q, hq, e⟩ := List.mem_map.1 h1
    rw [← e]; exact h q hq
  · rw [h1]; exact ha
theorem delK_nodup {ks : List (α × β)} {a : α} (hn : (ks.map Prod.fst).Nodup) : ((delK ks a).map Prod.fst).Nodup := hn.sublist (List.filter_sublist.map _)
end
class MapTy (P : Program) (t : TypeId) (α : outParam Type) (β : outParam Type) (ek : outParam (α → Value)) (ev : outParam (β → Value)) (ok : outParam (α → Prop)) (z : outParam β) (k : outParam TypeId) : Prop where
  e : ∃ e, P.underlying t = some (.map k e) ∧ ∀ w, (zeroValue e).run P w = .ok (ev z) w
  keyed : Keyed P k
  key : ∀ a, ok a → ∃ l, keyOf P k (ek a) = some l
  inj : ∀ a b, ek a = ek b → a = b
def Ents {α β : Type} (ek : α → Value) (ev : β → Value) (es : Array MapEntry) (ks : List (α × β)) : Prop := es.toList.map (fun x => (x.key, x.val)) = ks.map fun p => (ek p.1, ev p.2)
section
variable {α β : Type} {ek : α → Value} {ev : β → Value} {ok : α → Prop}
theorem Ents.size {es : Array MapEntry} {ks : List (α × β)} (h : Ents ek ev es ks) : es.size = ks.length := by
  have := congrArg List.length h
  simpa using this
theorem Ents.at {es : Array MapEntry} {ks : List (α × β)} (h : Ents ek ev es ks) {i : Nat} {x : MapEntry} (hx : es.toList[i]? = some x) : ∃ p, ks[i]? = some p ∧ x.key = ek p.1 ∧ x.val = ev p.2 := by
  have e := congrArg (fun l => l[i]?) h
  simp only [List.getElem?_map, hx, Option.map_some] at e
  obtain ⟨p, hp, e⟩ := Option.map_eq_some_iff.1 e.symm
  simp only [Prod.mk.injEq] at e
  exact ⟨p, hp, e.1.symm, e.2.symm⟩
theorem Ents.mem {es : Array MapEntry} {ks : List (α × β)} (h : Ents ek ev es ks) {x : MapEntry} (hx : x ∈ es.toList) : ∃ p ∈ ks, x.key = ek p.1 ∧ x.val = ev p.2 := by
  obtain ⟨i, hi⟩ := List.mem_iff_getElem?.1 hx
  obtain ⟨p, h1, h2⟩ := h.at hi
  exact ⟨p, List.mem_of_getElem? h1, h2⟩
theorem Ents.mem' {es : Array MapEntry} {ks : List (α × β)} (h : Ents ek ev es ks) {p : α × β} (hp : p ∈ ks) : ∃ x ∈ es.toList, x.key = ek p.1 ∧ x.val = ev p.2 := by
  obtain ⟨i, hi⟩ := List.mem_iff_getElem?.1 hp
  have e := congrArg (fun l => l[i]?) h
  simp only [List.getElem?_map, hi, Option.map_some] at e
  obtain ⟨x, hx, e⟩ := Option.map_eq_some_iff.1 e
  simp only [Prod.mk.injEq] at e
  exact ⟨x, List.mem_of_getElem? hx, e.1, e.2⟩
/-- what a map reads as -/
def RdM (ek : α → Value) (ev : β → Value) (ok : α → Prop) (w : World) (v : Value) (ks : List (α × β)) : Prop :=
  (v = .map none ∧ ks = []) ∨ ∃ b es clock, v = .map (some b) ∧ w.heap[b]? = some (.map es clock) ∧ Ents ek ev es ks ∧ (ks.map Prod.fst).Nodup ∧ ∀ p ∈ ks, ok p.1
def RM (ek : α → Value) (ev : β → Value) (ok : α → Prop) (w : World) (S : FS) (v : Value) (ks : List (α × β)) : Prop := ∀ w' S', Mod w S w' S' → RdM ek ev ok w' v ks
def Stamped (es : Array MapEntry) (clock : Nat) : Prop := (es.toList.map (·.born)).Nodup ∧ ∀ x ∈ es.toList, x.born < clock
def mapHP (ek : α → Value) (ev : β → Value) (ok : α → Prop) (v : Value) (ks : List (α × β)) : HP where
  sat S w := (ks.map Prod.fst).Nodup ∧ (∀ p ∈ ks, ok p.1) ∧ ∃ b es clock, v = .map (some b) ∧ S b ∧ w.heap[b]? = some (.map es clock) ∧ Ents ek ev es ks ∧ Stamped es clock
  mono h h' := ⟨h'.1, h'.2.1, h'.2.2.imp fun b ⟨es, c, h1, h2, h3⟩ => ⟨es, c, h1, h _ h2, h3⟩⟩
  move h h' := ⟨h'.1, h'.2.1, h'.2.2.imp fun b ⟨es, c, h1, h2, h3, h4⟩ => ⟨es, c, h1, h2, (h _ h2 (Array.getElem?_eq_some_iff.1 h3).1).trans h3, h4⟩⟩
  bound h' := ⟨h'.1, h'.2.1, h'.2.2.imp fun b ⟨es, c, h1, h2, h3, h4⟩ => ⟨es, c, h1, ⟨h2, (Array.getElem?_eq_some_iff.1 h3).1⟩, h3, h4⟩⟩
theorem mapHP_rd {v : Value} {ks : List (α × β)} {S : FS} {w : World} (h : (mapHP ek ev ok v ks).sat S w) : RdM ek ev ok w v ks := by
  obtain ⟨h1, h2, b, es, c, h3, h4, h5, h6, _⟩ := h
  exact .inr ⟨b, es, c, h3, h5, h6, h1, h2⟩
/-- a map, or none -/
def mapHP? (ek : α → Value) (ev : β → Value) (ok : α → Prop) (v : Value) : Option (List (α × β)) → HP
  | none => { sat := fun _ _ => v = .map none, mono := fun _ h => h, move := fun _ h => h, bound := fun h => h }
  | some ks => mapHP ek ev ok v ks
/-- a map that is ranged over: what is left, and the entry at hand -/
def rangeHP (ek : α → Value) (ev : β → Value) (ok : α → Prop) (v it : Value) (ks left : List (α × β)) (cur : Option (α × β)) : HP where
  sat S w := (ks.map Prod.fst).Nodup ∧ (∀ p ∈ ks, ok p.1) ∧ ∃ b r es clock seen, v = .map (some b) ∧ it = .pointer (some ⟨r, 0, none⟩) ∧ b ≠ r ∧ (S b ∧ S r) ∧ (w.heap[b]? = some (.map es clock) ∧ w.heap[r]? = some (.mapIter (some b) clock seen clock)) ∧ Ents ek ev es ks ∧ Stamped es clock ∧ Ents ek ev (leftOf es seen) left ∧ ∀ p, cur = some p → ∃ x ∈ es.toList, (∃ s : Array Nat, seen = s.push x.born) ∧ x.key = ek p.1 ∧ x.val = ev p.2
  mono h h' := ⟨h'.1, h'.2.1, h'.2.2.imp fun b ⟨r, es, c, s, h1, h2, h3, h4, h5⟩ => ⟨r, es, c, s, h1, h2, h3, ⟨h _ h4.1, h _ h4.2⟩, h5⟩⟩
  move h h' := ⟨h'.1, h'.2.1, h'.2.2.imp fun b ⟨r, es, c, s, h1, h2, h3, h4, h5, h6⟩ => ⟨r, es, c, s, h1, h2, h3, h4, ⟨(h _ h4.1 (Array.getElem?_eq_some_iff.1 h5.1).1).trans h5.1, (h _ h4.2 (Array.getElem?_eq_some_iff.1 h5.2).1).trans h5.2⟩, h6⟩⟩
  bound h' := ⟨h'.1, h'.2.1, h'.2.2.imp fun b ⟨r, es, c, s, h1, h2, h3, h4, h5, h6⟩ => ⟨r, es, c, s, h1, h2, h3, ⟨⟨h4.1, (Array.getElem?_eq_some_iff.1 h5.1).1⟩, ⟨h4.2, (Array.getElem?_eq_some_iff.1 h5.2).1⟩⟩, h5, h6⟩⟩
end
section
variable {P : Program} {w0 : World} {S0 : FS} {n : Nat} {F : List (Nat × Value)} {L : List HP} {o : Oper} {rest : List Oper} {ops : Array Oper} {Q : Exit → Act → World → Prop} {d : Nat} {v : Value} {α β : Type} {ek : α → Value} {ev : β → Value} {ok : α → Prop} {z : β}
theorem RM.of_rd {v : Value} {ks : List (α × β)} (h : RdM ek ev ok w0 v ks) : RM ek ev ok w0 (fun _ => False) v ks := by
  intro w S hm
  rcases h with h | ⟨b, es, c, h1, h2, h3⟩
  · exact .inl h
  · exact .inr ⟨b, es, c, h1, by rw [hm.keep b (Array.getElem?_eq_some_iff.1 h2).1 (fun h => h)]; exact h2, h3⟩
theorem find_ents {w : World} {k : TypeId} {es : Array MapEntry} {ks : List (α × β)} {a : α} (K : Keyed P k) (hk : ∀ a, ok a → ∃ l, keyOf P k (ek a) = some l) (hi : ∀ a b, ek a = ek b → a = b) (he : Ents ek ev es ks) (hok : ∀ p ∈ ks, ok p.1) (ha : ok a) :
    ((Instr.findKey k (ek a) es.toList).run P w = .ok none w ∧ a ∉ ks.map Prod.fst) ∨ ∃ (j : Nat) (x : MapEntry) (b : β), (Instr.findKey k (ek a) es.toList).run P w = .ok (some (j, x.val)) w ∧ es.toList[j]? = some x ∧ ks[j]? = some (a, b) ∧ x.key = ek a ∧ x.val = ev b := by
  obtain ⟨l, hl⟩ := hk a ha
  rcases K.find w hl es.toList (fun x hx => by
    obtain ⟨p, hp, e1, _⟩ := he.mem hx
    rw [e1]; exact hk p.1 (hok p hp)) with ⟨h1, h2⟩ | ⟨j, x, h1, h2, h3⟩
  · refine .inl ⟨h1, fun hm => ?_⟩
    obtain ⟨p, hp, e⟩ := List.mem_map.1 hm
    obtain ⟨x, hx, e1, _⟩ := he.mem' hp
    exact h2 x hx (by rw [e1, e])
  · obtain ⟨p, hp, e1, e2⟩ := he.at h2
    have : p.1 = a := hi _ _ (by rw [← e1, h3])
    refine .inr ⟨j, x, p.2, h1, h2, ?_, h3, e2⟩
    rw [hp, ← this]
variable [DecidableEq α]
theorem run_look {w : World} {t k : TypeId} {v : Value} {ks : List (α × β)} {a : α} (T : MapTy P t α β ek ev ok z k) (hr : RdM ek ev ok w v ks) (ha : ok a) (c : Bool) : (Instr.lookup t v (ek a) c).run P w = .ok (if c then .tuple #[ev ((getK ks a).getD z), .bool (getK ks a).isSome] else ev ((getK ks a).getD z)) w := by
  obtain ⟨e, ht, hz⟩ := T.e
  obtain ⟨l, hl⟩ := T.key a ha
  rcases hr with ⟨rfl, rfl⟩ | ⟨b, es, clock, rfl, hb, he, hn, hok⟩
  · have h1 : (Instr.findKey k (ek a) []).run P w = .ok none w := by
      rcases T.keyed.find w hl [] (by simp) with ⟨h1, _⟩ | ⟨j, x, _, h2, _⟩
      · exact h1
      · simp at h2
    simp [Instr.lookup, run_underlying ht, T.keyed.check w _ hl, h1, hz, Result.andThen, getK]
  · rcases find_ents (w := w) T.keyed T.key T.inj he hok ha with ⟨h1, h2⟩ | ⟨j, x, y, h1, h2, h3, h4, h5⟩
    · simp [Instr.lookup, run_underlying ht, MapKept.run_getObj_map hb, T.keyed.check w _ hl, h1, hz, Result.andThen, getK_none h2]
    · have := getK_some hn (List.mem_of_getElem? h3)
      simp [Instr.lookup, run_underlying ht, MapKept.run_getObj_map hb, T.keyed.check w _ hl, h1, Result.andThen, this, h5]
theorem q_look_of {x y : Operand} {t k : TypeId} {a : α} {s ka : Value} {ks : List (α × β)} [T : MapTy P t α β ek ev ok z k] (hrd : ∀ w, St w0 S0 L w → RdM ek ev ok w s ks) (ho : o.op = .lookup t x y false) (hx : Sl.ev F x = some s) (hy : Sl.ev F y = some ka) (hka : ka = ek a) (ha : ok a) : R1 P w0 S0 n F L o (ev ((getK ks a).getD z)) :=
  q_of_run fun a' hf w hs => by
    have := run_look (P := P) (w := w) T (hrd w hs) ha false
    rw [← hka] at this
    simp [execOp, ho, hf.eval hx, hf.eval hy, this]
theorem q_look {x y : Operand} {t k : TypeId} {a : α} {b : β} {s ka : Value} {ks : List (α × β)} [T : MapTy P t α β ek ev ok z k] (ho : o.op = .lookup t x y false) (hx : Sl.ev F x = some s) (hy : Sl.ev F y = some ka) (hL : mapHP ek ev ok s ks ∈ L) (hka : ka = ek a) (hv : (getK ks a).getD z = b) (ha : ok a) : R1 P w0 S0 n F L o (ev b) :=
  hv ▸ q_look_of (fun w hs => (hs.mem hL).elim fun _ h => mapHP_rd h) ho hx hy hka ha
theorem q_look_kid {x y : Operand} {t k : TypeId} {a : α} {b : β} {s ka : Value} {ks : List (α × β)} {Ks : List HP} [T : MapTy P t α β ek ev ok z k] (ho : o.op = .lookup t x y false) (hx : Sl.ev F x = some s) (hy : Sl.ev F y = some ka) (hK : mapHP? ek ev ok s (some ks) ∈ Ks) (hL : starHP Ks ∈ L) (hka : ka = ek a) (hv : (getK ks a).getD z = b) (ha : ok a) : R1 P w0 S0 n F L o (ev b) :=
  hv ▸ q_look_of (fun w hs => (hs.kid hL hK).elim fun _ h => mapHP_rd h) ho hx hy hka ha
theorem run_lenm {w : World} {t k : TypeId} {v : Value} {ks : List (α × β)} (T : MapTy P t α β ek ev ok z k) (hr : RdM ek ev ok w v ks) (ty : TypeId) : (Builtin.len_ #[t] ty #[v]).run P w = .ok (.int .i64 (ks.length : Int)) w := by
  obtain ⟨e, ht, hz⟩ := T.e
  rcases hr with ⟨rfl, rfl⟩ | ⟨b, es, clock, rfl, hb, he, hn, hok⟩
  · simp [Builtin.len_, run_under ht, goInt]
  · simp [Builtin.len_, run_under ht, MapKept.run_getObj_map hb, Result.andThen, goInt, he.size]
theorem q_lenm_of {x : Operand} {t k : TypeId} {s : Value} {ks : List (α × β)} [T : MapTy P t α β ek ev ok z k] (hrd : ∀ w, St w0 S0 L w → RdM ek ev ok w s ks) (ho : o.op = .call { callee := .builtin .len, args := #[x], argTypes := #[t] }) (hx : Sl.ev F x = some s) : R1 P w0 S0 n F L o (.int .i64 (ks.length : Int)) :=
  q_of_run fun a' hf w hs => by
    have := run_lenm (P := P) (w := w) T (hrd w hs) o.type
    simp [execOp, ho, hf.eval hx, resolve, invoke, builtin, this]
theorem q_lenm_kid {x : Operand} {t k : TypeId} {s : Value} {ks : List (α × β)} {Ks : List HP} [T : MapTy P t α β ek ev ok z k] (ho : o.op = .call { callee := .builtin .len, args := #[x], argTypes := #[t] }) (hx : Sl.ev F x = some s) (hK : mapHP? ek ev ok s (some ks) ∈ Ks) (hL : starHP Ks ∈ L) : R1 P w0 S0 n F L o (.int .i64 (ks.length : Int)) :=
  q_lenm_of (fun w hs => (hs.kid hL hK).elim fun _ h => mapHP_rd h) ho hx
theorem l_makeMap {R : Act → World → Prop} {t k : TypeId} [T : MapTy P t α β ek ev ok z k] (ho : o.op = .makeMap t none) (hd : o.dst = some d) (hn : Nat.blt d n = true)
    (h : ∀ b, Reach w0 S0 n ((d, .map (some b)) :: F) (mapHP ek ev ok (.map (some b)) [] :: L) R) : Reach w0 S0 n F L (fun a w => o.wp P a w R Q) := by
  refine l_loud fun a hf w hs => ⟨_, _, by simp only [execOp, ho, Option.map_none, run_makeMap, Sem.run_bind, Result.andThen_ok, Sem.run_pure]; rfl, .inl ⟨_, rfl, _, _, by rw [hd]; exact hf.put hn, ?_, h w.heap.size⟩⟩
  refine hs.push (M := [_]) (mod_alloc w _) ⟨fun k => w.heap.size ≤ k, fun _ => False, fun k hk => hk, fun k hk => hk.elim, fun k _ hk => hk, ⟨by simp, by simp, w.heap.size, #[], 0, rfl, Nat.le_refl _, by simpa using heap_alloc_new w (.map #[] 0), rfl, by simp [Stamped]⟩, trivial⟩
theorem mod_setBlock {w : World} {S : FS} {b : Nat} {x : Obj} (hb : S b) : Mod w S (setBlock w b x) S :=
  ⟨rfl, rfl, rfl, Nat.le_refl _, by simp [setBlock], fun k hk hn => by
    have hne : b ≠ k := fun e => hn (e ▸ hb)
    simp [setBlock, Array.getElem?_setIfInBounds_ne hne], fun k h => .inl h⟩
theorem setBlock_at {w : World} {b : Nat} {x y : Obj} (h : w.heap[b]? = some y) : (setBlock w b x).heap[b]? = some x := by
  have hlt := (Array.getElem?_eq_some_iff.1 h).1
  simp [setBlock, hlt]
theorem setBlock_ne {w : World} {b c : Nat} {x : Obj} (h : b ≠ c) : (setBlock w b x).heap[c]? = w.heap[c]? := by
  simp [setBlock, Array.getElem?_setIfInBounds_ne h]
theorem Ents.put {es : Array MapEntry} {ks : List (α × β)} {j : Nat} {a : α} {b b0 : β} (he : Ents ek ev es ks) (hn : (ks.map Prod.fst).Nodup) (hj : ks[j]? = some (a, b0)) (hx : ∀ x, es.toList[j]? = some x → x.key = ek a) : Ents ek ev (es.modify j fun e => { e with key := ek a, val := ev b }) (putK ks a b) := by
  have hmem : a ∈ ks.map Prod.fst := List.mem_map.2 ⟨(a, b0), List.mem_of_getElem? hj, rfl⟩
  rw [putK, if_pos hmem]
  apply List.ext_getElem?
  intro i
  have e := congrArg (fun l => l[i]?) he
  simp only [List.getElem?_map, Array.toList_modify, List.getElem?_modify] at e ⊢
  cases hk : ks[i]? with
  | none =>
    rw [hk, Option.map_none, Option.map_eq_none_iff] at e
    rw [e]
    simp
  | some p =>
    rw [hk, Option.map_some] at e
    obtain ⟨x, hx1, e⟩ := Option.map_eq_some_iff.1 e
    rw [hx1]
    by_cases hij : j = i
    · subst hij
      rw [hj] at hk
      obtain rfl : (a, b0) = p := by simpa using hk
      simp
    · have hne : p.1 ≠ a := fun e1 => by
        have h1 : (ks.map Prod.fst)[i]? = some a := by simp [hk, e1]
        have h2 : (ks.map Prod.fst)[j]? = some a := by simp [hj]
        obtain ⟨l1, g1⟩ := List.getElem?_eq_some_iff.1 h1
        obtain ⟨l2, g2⟩ := List.getElem?_eq_some_iff.1 h2
        rcases Nat.lt_or_gt_of_ne hij with h | h
        · exact List.pairwise_iff_getElem.1 hn j i l2 l1 h (by rw [g1, g2])
        · exact List.pairwise_iff_getElem.1 hn i j l1 l2 h (by rw [g1, g2])
      simp [hij, hne, e]
theorem run_mapup {w : World} {t k : TypeId} {v : Value} {ks : List (α × β)} {a : α} {b : β} {S : FS} (T : MapTy P t α β ek ev ok z k) (h : (mapHP ek ev ok v ks).sat S w) (ha : ok a) :
    ∃ w', (Instr.mapUpdate t v (ek a) (ev b)).run P w = .ok () w' ∧ Mod w S w' S ∧ (mapHP ek ev ok v (putK ks a b)).sat S w' := by
  obtain ⟨e, ht, hz⟩ := T.e
  obtain ⟨l, hl⟩ := T.key a ha
  obtain ⟨hn, hok, g, es, clock, rfl, hS, hb, he, hst⟩ := h
  rcases find_ents (w := w) T.keyed T.key T.inj he hok ha with ⟨h1, h2⟩ | ⟨j, x, y, h1, h2, h3, h4, h5⟩
  · refine ⟨setBlock w g (.map (es.push ⟨ek a, ev b, clock⟩) (clock + 1)), ?_, mod_setBlock hS, putK_nodup hn, putK_ok hok ha, g, _, _, rfl, hS, setBlock_at hb, ?_, ?_⟩
    · simp [Instr.mapUpdate, run_underlying ht, MapKept.run_getObj_map hb, T.keyed.check w false hl, h1, MapKept.run_setObj_map _ hb, Result.andThen, setBlock]
    · rw [putK_new h2]
      simp only [Ents, Array.toList_push, List.map_append, List.map_cons, List.map_nil]
      rw [he]
    · refine ⟨?_, fun x hx => ?_⟩
      · rw [Array.toList_push, List.map_append]
        refine List.nodup_append.2 ⟨hst.1, by simp, fun p hp q hq e => ?_⟩
        obtain rfl : q = clock := by simpa using hq
        obtain ⟨x, hx, rfl⟩ := List.mem_map.1 hp
        have := hst.2 x hx
        omega
      · rw [Array.toList_push, List.mem_append] at hx
        rcases hx with hx | hx
        · have := hst.2 x hx; omega
        · obtain rfl := List.mem_singleton.1 hx
          exact Nat.lt_succ_self _
  · have hjs : es[j]? = some x := by simpa using h2
    refine ⟨setBlock w g (.map (es.modify j fun e => { e with key := ek a, val := ev b }) clock), ?_, mod_setBlock hS, putK_nodup hn, putK_ok hok ha, g, _, _, rfl, hS, setBlock_at hb, ?_, ?_⟩
    · simp [Instr.mapUpdate, run_underlying ht, MapKept.run_getObj_map hb, T.keyed.check w false hl, h1, hjs, h4, T.keyed.stays w hl, MapKept.run_setObj_map _ hb, Result.andThen, setBlock]
    · exact he.put hn h3 fun x' hx' => by rw [h2] at hx'; obtain rfl : x = x' := (by simpa using hx'); exact h4
    · have hborn : (es.modify j fun e => { e with key := ek a, val := ev b }).toList.map (·.born) = es.toList.map (·.born) := by
        apply List.ext_getElem?
        intro i
        simp only [List.getElem?_map, Array.toList_modify, List.getElem?_modify]
        cases es.toList[i]? with
        | none => rfl
        | some x => by_cases hij : j = i <;> simp [hij]
      refine ⟨by rw [hborn]; exact hst.1, fun x hx => ?_⟩
      have : x.born ∈ es.toList.map (·.born) := by rw [← hborn]; exact List.mem_map.2 ⟨x, hx, rfl⟩
      obtain ⟨y, hy, e⟩ := List.mem_map.1 this
      rw [← e]; exact hst.2 y hy
theorem l_mapup {R : Act → World → Prop} {m x y : Operand} {t k : TypeId} {i : Nat} {s ka va : Value} {a : α} {b : β} {ks : List (α × β)} [T : MapTy P t α β ek ev ok z k] (ho : o.op = .mapUpdate t m x y) (hd : o.dst = none) (hm : Sl.ev F m = some s) (hx : Sl.ev F x = some ka) (hy : Sl.ev F y = some va) (hL : L[i]? = some (mapHP ek ev ok s ks)) (hka : ka = ek a) (hva : va = ev b) (ha : ok a)
    (h : Reach w0 S0 n F (L.set i (mapHP ek ev ok s (putK ks a b))) R) : Reach w0 S0 n F L (fun a w => o.wp P a w R Q) := by
  subst hka hva
  refine l_loud fun a' hf w hs => ?_
  obtain ⟨S, hsat⟩ := hs.mem (List.mem_of_getElem? hL)
  obtain ⟨w', hr, hmd, hsat'⟩ := run_mapup (P := P) (b := b) T hsat ha
  refine ⟨_, _, by simp only [execOp, ho, hf.eval hm, hf.eval hx, hf.eval hy, Sem.run_bind, hr, Result.andThen_ok, Sem.run_pure]; rfl, .inr ⟨rfl, _, hd, ?_, h⟩⟩
  refine hs.step hL fun S2 hsat2 => ?_
  obtain ⟨w2, hr2, hmd2, hsat2'⟩ := run_mapup (P := P) (b := b) T hsat2 ha
  rw [hr] at hr2
  obtain rfl : w' = w2 := by simpa using hr2
  exact ⟨S2, hmd2, hsat2'⟩
theorem delK_at {ks : List (α × β)} {j : Nat} {a : α} {b : β} (hn : (ks.map Prod.fst).Nodup) (hj : ks[j]? = some (a, b)) : delK ks a = ks.eraseIdx j := by
  induction ks generalizing j with
  | nil => simp at hj
  | cons p ks ih =>
    rw [List.map_cons, List.nodup_cons] at hn
    cases j with
    | zero =>
      obtain rfl : p = (a, b) := by simpa using hj
      have : ∀ q ∈ ks, q.1 ≠ a := fun q hq e => hn.1 (List.mem_map.2 ⟨q, hq, e⟩)
      rw [delK, List.filter_cons_of_neg (by simp), List.filter_eq_self.2 (fun q hq => by simpa using this q hq), List.eraseIdx_cons_zero]
    | succ j =>
      have hj' : ks[j]? = some (a, b) := by simpa using hj
      have hne : p.1 ≠ a := fun e => hn.1 (e ▸ List.mem_map.2 ⟨(a, b), List.mem_of_getElem? hj', rfl⟩)
      rw [delK, List.filter_cons_of_pos (by simpa using hne), List.eraseIdx_cons_succ, ← ih hn.2 hj']
      rfl
theorem delK_none {ks : List (α × β)} {a : α} (h : a ∉ ks.map Prod.fst) : delK ks a = ks :=
  List.filter_eq_self.2 fun p hp => by simpa using fun e => h (List.mem_map.2 ⟨p, hp, e⟩)
theorem run_del {w : World} {t k : TypeId} {v : Value} {ks : List (α × β)} {a : α} {S : FS} (T : MapTy P t α β ek ev ok z k) (h : (mapHP ek ev ok v ks).sat S w) (ha : ok a) (ty : TypeId) :
    ∃ w', (Builtin.delete_ #[t, k] ty #[v, ek a]).run P w = .ok (.tuple #[]) w' ∧ Mod w S w' S ∧ (mapHP ek ev ok v (delK ks a)).sat S w' := by
  obtain ⟨e, ht, hz⟩ := T.e
  obtain ⟨l, hl⟩ := T.key a ha
  obtain ⟨hn, hok, g, es, clock, rfl, hS, hb, he, hst⟩ := h
  have hok' : ∀ p ∈ delK ks a, ok p.1 := fun p hp => hok p (List.mem_filter.1 hp).1
  rcases find_ents (w := w) T.keyed T.key T.inj he hok ha with ⟨h1, h2⟩ | ⟨j, x, y, h1, h2, h3, h4, h5⟩
  · refine ⟨setBlock w g (.map es clock), ?_, mod_setBlock hS, delK_nodup hn, hok', g, _, _, rfl, hS, setBlock_at hb, by rw [delK_none h2]; exact he, hst⟩
    simp [Builtin.delete_, run_underlying ht, MapKept.run_getObj_map hb, T.keyed.check w _ hl, h1, MapKept.run_setObj_map _ hb, Result.andThen, setBlock]
  · have hjs : j < es.size := by simpa using (List.getElem?_eq_some_iff.1 h2).1
    have hsub : (es.eraseIdxIfInBounds j).toList = es.toList.eraseIdx j := by
      unfold Array.eraseIdxIfInBounds
      rw [dif_pos hjs]
      simp
    refine ⟨setBlock w g (.map (es.eraseIdxIfInBounds j) clock), ?_, mod_setBlock hS, delK_nodup hn, hok', g, _, _, rfl, hS, setBlock_at hb, ?_, ?_⟩
    · simp [Builtin.delete_, run_underlying ht, MapKept.run_getObj_map hb, T.keyed.check w _ hl, h1, MapKept.run_setObj_map _ hb, Result.andThen, setBlock]
    · rw [delK_at hn h3, Ents, hsub]
      have hme : ∀ {γ δ : Type} (f : γ → δ) (l : List γ) (i : Nat), (l.eraseIdx i).map f = (l.map f).eraseIdx i := by
        intro γ δ f l
        induction l with
        | nil => intro i; rfl
        | cons x l ih => intro i; cases i with
          | zero => rfl
          | succ i => simp [ih]
      rw [hme, hme, he]
    · refine ⟨?_, fun x hx => hst.2 x ?_⟩
      · rw [hsub]
        exact hst.1.sublist ((List.eraseIdx_sublist _ _).map _)
      · rw [hsub] at hx
        exact (List.eraseIdx_sublist _ _).subset hx
theorem l_del {R : Act → World → Prop} {m x : Operand} {t k : TypeId} {i : Nat} {s ka : Value} {a : α} {ks : List (α × β)} [T : MapTy P t α β ek ev ok z k] (ho : o.op = .call { callee := .builtin .delete, args := #[m, x], argTypes := #[t, k] }) (hd : o.dst = none) (hm : Sl.ev F m = some s) (hx : Sl.ev F x = some ka) (hL : L[i]? = some (mapHP ek ev ok s ks)) (hka : ka = ek a) (ha : ok a)
    (h : Reach w0 S0 n F (L.set i (mapHP ek ev ok s (delK ks a))) R) : Reach w0 S0 n F L (fun a w => o.wp P a w R Q) := by
  subst hka
  refine l_loud fun a' hf w hs => ?_
  obtain ⟨S, hsat⟩ := hs.mem (List.mem_of_getElem? hL)
  obtain ⟨w', hr, hmd, hsat'⟩ := run_del (P := P) T hsat ha o.type
  refine ⟨_, _, by simp only [execOp, ho, resolve, invoke, builtin, Sem.run_bind, Sem.run_pure, Result.andThen_ok, List.map_toArray, List.map_cons, List.map_nil, hf.eval hm, hf.eval hx, hr]; rfl, .inl ⟨_, rfl, F, _, by rw [hd]; exact hf, ?_, h⟩⟩
  refine hs.step hL fun S2 hsat2 => ?_
  obtain ⟨w2, hr2, hmd2, hsat2'⟩ := run_del (P := P) T hsat2 ha o.type
  rw [hr] at hr2
  obtain rfl : w' = w2 := by simpa using hr2
  exact ⟨S2, hmd2, hsat2'⟩
theorem leftOf_none (es : Array MapEntry) : leftOf es #[] = es := by
  simp [leftOf]
theorem l_range {R : Act → World → Prop} {x : Operand} {t k : TypeId} {i : Nat} {s : Value} {ks : List (α × β)} [T : MapTy P t α β ek ev ok z k] (ho : o.op = .range t x) (hd : o.dst = some d) (hn : Nat.blt d n = true) (hx : Sl.ev F x = some s) (hL : L[i]? = some (mapHP ek ev ok s ks))
    (h : ∀ it, Reach w0 S0 n ((d, it) :: F) (L.set i (rangeHP ek ev ok s it ks ks none)) R) : Reach w0 S0 n F L (fun a w => o.wp P a w R Q) := by
  obtain ⟨e, ht, hz⟩ := T.e
  refine l_loud fun a' hf w hs => ?_
  obtain ⟨S, hsat⟩ := hs.mem (List.mem_of_getElem? hL)
  obtain ⟨hnd, hok, b, es, clock, rfl, hS, hb, he, hst⟩ := hsat
  have hrun : (Instr.range t (.map (some b))).run P w = .ok (.pointer (some ⟨w.heap.size, 0, none⟩)) (w.alloc (.mapIter (some b) clock #[] clock)) := by
    simp [Instr.range, run_underlying ht, MapKept.run_getObj_map hb, Result.andThen]
  refine ⟨_, _, by simp only [execOp, ho, hf.eval hx, Sem.run_bind, hrun, Result.andThen_ok, Sem.run_pure]; rfl, .inl ⟨_, rfl, _, _, by rw [hd]; exact hf.put hn, ?_, h (.pointer (some ⟨w.heap.size, 0, none⟩))⟩⟩
  refine hs.step hL fun S2 hsat2 => ?_
  obtain ⟨_, _, b2, es2, clock2, hv, hS2, hb2, he2, hst2⟩ := hsat2
  obtain rfl : b = b2 := by simpa using hv
  have hlt := (Array.getElem?_eq_some_iff.1 hb2).1
  have hold : ∀ k, k < w.heap.size → (w.alloc (.mapIter (some b) clock #[] clock)).heap[k]? = w.heap[k]? := fun k hk => heap_alloc_old w _ hk
  rw [hb] at hb2
  obtain ⟨rfl, rfl⟩ : es = es2 ∧ clock = clock2 := by simpa using hb2
  refine ⟨fun k => S2 k ∨ k = w.heap.size, ⟨rfl, rfl, rfl, Nat.le_refl _, (mod_alloc w _).size, fun k hk _ => hold k hk, fun k hk => hk.imp id fun h => by omega⟩, hnd, hok, b, w.heap.size, es, clock, #[], rfl, rfl, by omega, ⟨.inl hS2, .inr rfl⟩, ⟨(hold b hlt).trans hb, by simpa using heap_alloc_new w (.mapIter (some b) clock #[] clock)⟩, he, hst, by rw [leftOf_none]; exact he, fun p hp => by simp at hp⟩
theorem left_split {es : Array MapEntry} {seen : Array Nat} {left : List (α × β)} {x : MapEntry} (he : Ents ek ev (leftOf es seen) left) (hx : x ∈ (leftOf es seen).toList) (hn : (es.toList.map (·.born)).Nodup) :
    ∃ l1 p l2, left = l1 ++ p :: l2 ∧ x.key = ek p.1 ∧ x.val = ev p.2 ∧ Ents ek ev (leftOf es (seen.push x.born)) (l1 ++ l2) := by
  have hn' : ((leftOf es seen).toList.map (·.born)).Nodup := by
    have : (leftOf es seen).toList = es.toList.filter (fun e => !seen.contains e.born) := by simp [leftOf]
    rw [this]
    exact hn.sublist (List.filter_sublist.map _)
  have hpush : (leftOf es (seen.push x.born)).toList = (leftOf es seen).toList.filter fun e => e.born ≠ x.born := by
    simp only [leftOf, Array.toList_filter, List.filter_filter]
    apply List.filter_congr
    intro e _
    rw [contains_push]
    by_cases h : e.born = x.born <;> simp [h]
  unfold Ents at he ⊢
  generalize (leftOf es seen).toList = l at *
  obtain ⟨a1, a2, rfl⟩ := List.append_of_mem hx
  rw [hpush]
  rw [List.map_append, List.map_cons] at hn'
  obtain ⟨n1, n2, n3⟩ := List.nodup_append.1 hn'
  have f1 : a1.filter (fun e => e.born ≠ x.born) = a1 := List.filter_eq_self.2 fun e he => by
    simpa using n3 e.born (List.mem_map.2 ⟨e, he, rfl⟩) x.born (by simp)
  have f2 : a2.filter (fun e => e.born ≠ x.born) = a2 := List.filter_eq_self.2 fun e he => by
    have := (List.nodup_cons.1 n2).1
    simp only [decide_eq_true_eq]
    exact fun h => this (by rw [← h]; exact List.mem_map.2 ⟨e, he, rfl⟩)
  rw [List.filter_append, List.filter_cons_of_neg (by simp), f1, f2]
  rw [List.map_append, List.map_cons] at he
  obtain ⟨l1, l', rfl, e1, e2⟩ := List.append_eq_map_iff.1 he
  obtain ⟨p, l2, rfl, e3, e4⟩ := List.map_eq_cons_iff.1 e2
  simp only [Prod.mk.injEq] at e3
  refine ⟨l1, p, l2, rfl, e3.1.symm, e3.2.symm, ?_⟩
  rw [List.map_append, List.map_append, e1, e4]
theorem l_next {R : Act → World → Prop} {x : Operand} {i : Nat} {s it : Value} {ks left : List (α × β)} {cur : Option (α × β)} (ho : o.op = .next x false) (hd : o.dst = some d) (hn : Nat.blt d n = true) (hx : Sl.ev F x = some it) (hL : L[i]? = some (rangeHP ek ev ok s it ks left cur))
    (h1 : left = [] → Reach w0 S0 n ((d, .tuple #[.bool false]) :: F) L R)
    (h2 : ∀ l1 p l2, left = l1 ++ p :: l2 → Reach w0 S0 n ((d, .tuple #[.bool true, ek p.1, ev p.2]) :: F) (L.set i (rangeHP ek ev ok s it ks (l1 ++ l2) (some p))) R) : Reach w0 S0 n F L (fun a w => o.wp P a w R Q) := by
  refine l_loud fun a' hf w hs => ?_
  obtain ⟨S, hsat⟩ := hs.mem (List.mem_of_getElem? hL)
  obtain ⟨hnd, hok, b, r, es, clock, seen, rfl, rfl, hbr, ⟨hSb, hSr⟩, ⟨hb, hr⟩, he, hst, hl, hc⟩ := hsat
  rcases run_next_at (P := P) w o.type r b clock clock seen es clock hr hb hst.2 (Nat.le_refl _) with ⟨h0, hrun⟩ | ⟨e, hem, w1, hw1, hrun⟩
  · have hl0 : left = [] := List.eq_nil_of_length_eq_zero (by rw [← hl.size]; exact h0)
    exact ⟨_, _, by simp only [execOp, ho, hf.eval hx, Sem.run_bind, hrun, Result.andThen_ok, Sem.run_pure]; rfl, .inl ⟨_, rfl, _, _, by rw [hd]; exact hf.put hn, hs, h1 hl0⟩⟩
  · obtain ⟨l1, p, l2, hsp, k1, k2, hl'⟩ := left_split hl hem hst.1
    have hc2 := h2 l1 p l2 hsp
    rw [← k1, ← k2] at hc2
    refine ⟨_, _, by simp only [execOp, ho, hf.eval hx, Sem.run_bind, hrun, Result.andThen_ok, Sem.run_pure]; rfl, .inl ⟨_, rfl, _, _, by rw [hd]; exact hf.put hn, ?_, hc2⟩⟩
    have hs1 : St w0 S0 L w1 := by
      rcases hw1 with rfl | rfl
      · exact hs
      · exact hs.drew
    have hheap : w1.heap = w.heap := by rcases hw1 with rfl | rfl <;> rfl
    refine hs1.step hL fun S2 hsat2 => ?_
    obtain ⟨_, _, b2, r2, es2, clock2, seen2, hv, hi, _, ⟨hSb2, hSr2⟩, ⟨hb2, hr2⟩, _⟩ := hsat2
    obtain rfl : b = b2 := by simpa using hv
    obtain rfl : r = r2 := by simpa using hi
    refine ⟨S2, mod_setBlock hSr2, hnd, hok, b, r, es, clock, seen.push e.born, rfl, rfl, hbr, ⟨hSb2, hSr2⟩, ⟨?_, setBlock_at hr2⟩, he, hst, hl', fun q hq => ?_⟩
    · rw [setBlock_ne (Ne.symm hbr), hheap]; exact hb
    · obtain rfl : p = q := by simpa using hq
      exact ⟨e, (mem_left hem).1, ⟨seen, rfl⟩, k1, k2⟩
theorem q_entry {x : Operand} {s it : Value} {ks left : List (α × β)} {p : α × β} (ho : o.op = .entry x) (hx : Sl.ev F x = some it) (hL : rangeHP ek ev ok s it ks left (some p) ∈ L) : R1 P w0 S0 n F L o (.tuple #[ek p.1, ev p.2]) :=
  q_of_run fun a' hf w hs => by
    obtain ⟨S, hsat⟩ := hs.mem hL
    obtain ⟨hnd, hok, b, r, es, clock, seen, rfl, rfl, hbr, ⟨hSb, hSr⟩, ⟨hb, hr⟩, he, hst, hl, hc⟩ := hsat
    obtain ⟨e, hem, ⟨s0, rfl⟩, k1, k2⟩ := hc p rfl
    have := run_entry_at (P := P) w r b clock s0 es clock e hr hb hem hst.1
    rw [k1, k2] at this
    simp [execOp, ho, hf.eval hx, this]
theorem St.unrange {w : World} {i : Nat} {s it : Value} {ks left : List (α × β)} {cur : Option (α × β)} (hL : L[i]? = some (rangeHP ek ev ok s it ks left cur)) (h : St w0 S0 L w) : St w0 S0 (L.set i (mapHP ek ev ok s ks)) w :=
  h.step hL fun S hsat => by
    obtain ⟨hnd, hok, b, r, es, clock, seen, rfl, rfl, hbr, ⟨hSb, hSr⟩, ⟨hb, hr⟩, he, hst, hl, hc⟩ := hsat
    exact ⟨S, Mod.refl w S, hnd, hok, b, es, clock, rfl, hSb, hb, he, hst⟩
theorem c_unrange {i : Nat} {s it : Value} {ks left : List (α × β)} {cur : Option (α × β)} {R : Act → World → Prop} (hL : L[i]? = some (rangeHP ek ev ok s it ks left cur)) (h : Reach w0 S0 n F (L.set i (mapHP ek ev ok s ks)) R) : Reach w0 S0 n F L R := h.conv fun _ => St.unrange hL
section
variable {ty : TypeId} {ps : String} {af : Array Edge}
theorem o_makeMap {t k : TypeId} [T : MapTy P t α β ek ev ok z k] (hn : Nat.blt d n = true) (h : ∀ b, Reach w0 S0 n ((d, .map (some b)) :: F) (mapHP ek ev ok (.map (some b)) [] :: L) (wpList P ops Q rest)) : Reach w0 S0 n F L (wpList P ops Q (⟨some d, .makeMap t none, ty, ps, af, none⟩ :: rest)) := s_of_l rfl fun R hR => l_makeMap (z := z) rfl rfl hn fun b => (h b).imp hR
theorem o_mapup {m x y : Operand} {t k : TypeId} {i : Nat} {s ka va : Value} {ks : List (α × β)} [T : MapTy P t α β ek ev ok z k] (a : α) (b : β) (hm : Sl.ev F m = some s) (hx : Sl.ev F x = some ka) (hy : Sl.ev F y = some va) (hL : L[i]? = some (mapHP ek ev ok s ks)) (hka : ka = ek a) (hva : va = ev b) (ha : ok a)
    (h : Reach w0 S0 n F (L.set i (mapHP ek ev ok s (putK ks a b))) (wpList P ops Q rest)) : Reach w0 S0 n F L (wpList P ops Q (⟨none, .mapUpdate t m x y, ty, ps, af, none⟩ :: rest)) := s_of_l rfl fun R hR => l_mapup (z := z) rfl rfl hm hx hy hL hka hva ha (h.imp hR)
theorem o_del {m x : Operand} {t k : TypeId} {i : Nat} {s ka : Value} {ks : List (α × β)} [T : MapTy P t α β ek ev ok z k] (a : α) (hm : Sl.ev F m = some s) (hx : Sl.ev F x = some ka) (hL : L[i]? = some (mapHP ek ev ok s ks)) (hka : ka = ek a) (ha : ok a)
    (h : Reach w0 S0 n F (L.set i (mapHP ek ev ok s (delK ks a))) (wpList P ops Q rest)) : Reach w0 S0 n F L (wpList P ops Q (⟨none, .call { callee := .builtin .delete, args := #[m, x], argTypes := #[t, k] }, ty, ps, af, none⟩ :: rest)) := s_of_l rfl fun R hR => l_del (z := z) rfl rfl hm hx hL hka ha (h.imp hR)
theorem o_range {x : Operand} {t k : TypeId} {i : Nat} {s : Value} {ks : List (α × β)} [T : MapTy P t α β ek ev ok z k] (hn : Nat.blt d n = true) (hx : Sl.ev F x = some s) (hL : L[i]? = some (mapHP ek ev ok s ks))
    (h : ∀ it, Reach w0 S0 n ((d, it) :: F) (L.set i (rangeHP ek ev ok s it ks ks none)) (wpList P ops Q rest)) : Reach w0 S0 n F L (wpList P ops Q (⟨some d, .range t x, ty, ps, af, none⟩ :: rest)) := s_of_l rfl fun R hR => l_range (z := z) rfl rfl hn hx hL fun it => (h it).imp hR
theorem o_next {x : Operand} {i : Nat} {s it : Value} {ks left : List (α × β)} {cur : Option (α × β)} (hn : Nat.blt d n = true) (hx : Sl.ev F x = some it) (hL : L[i]? = some (rangeHP ek ev ok s it ks left cur))
    (h1 : left = [] → Reach w0 S0 n ((d, .tuple #[.bool false]) :: F) L (wpList P ops Q rest))
    (h2 : ∀ l1 p l2, left = l1 ++ p :: l2 → Reach w0 S0 n ((d, .tuple #[.bool true, ek p.1, ev p.2]) :: F) (L.set i (rangeHP ek ev ok s it ks (l1 ++ l2) (some p))) (wpList P ops Q rest)) : Reach w0 S0 n F L (wpList P ops Q (⟨some d, .next x false, ty, ps, af, none⟩ :: rest)) := s_of_l rfl fun R hR => l_next rfl rfl hn hx hL (fun e => (h1 e).imp hR) fun l1 p l2 e => (h2 l1 p l2 e).imp hR
end
end
abbrev okI (i : Int) : Prop := -9223372036854775808 ≤ i ∧ i ≤ 9223372036854775807
abbrev ekI (i : Int) : Value := .int .i64 i
theorem wf_i64 {i : Int} (h : okI i) : (Lit.int .i64 i).wf = true := by
  obtain ⟨h1, h2⟩ := h
  simp only [Lit.wf, IntKind.min, IntKind.max, IntKind.signed, IntKind.bits]
  simp
  omega
theorem mapTy_int {P : Program} {t k e : TypeId} {β : Type} {ev : β → Value} {z : β} (ht : P.underlying t = some (.map k e)) (hk : P.underlying k = some (.int .i64)) (hz : ∀ w, (zeroValue e).run P w = .ok (ev z) w) : MapTy P t Int β ekI ev okI z k where
  e := ⟨e, ht, hz⟩
  keyed := int_keyed hk
  key i hi := ⟨_, keyOf_int_mk hk (wf_i64 hi)⟩
  inj a b h := by simpa using h
def setN (l : List Nat) : List (Int × Bool) := l.map fun u : Nat => ((u : Int), true)
theorem setN_length (l : List Nat) : (setN l).length = l.length := by simp [setN]
theorem setN_keys (l : List Nat) : (setN l).map Prod.fst = l.map fun u : Nat => (u : Int) := by simp [setN]
theorem setN_mem {l : List Nat} {u : Nat} : (u : Int) ∈ (setN l).map Prod.fst ↔ u ∈ l := by
  rw [setN_keys, List.mem_map]
  exact ⟨fun ⟨a, h1, h2⟩ => by rwa [show u = a by omega], fun h => ⟨u, h, rfl⟩⟩
theorem getK_setN (l : List Nat) (u : Nat) : (getK (setN l) (u : Int)).getD false = decide (u ∈ l) := by
  unfold getK
  cases h : (setN l).find? fun p => decide (p.1 = (u : Int)) with
  | none =>
    rw [List.find?_eq_none] at h
    refine (decide_eq_false fun hu => ?_).symm
    exact h ((u : Int), true) (List.mem_map.2 ⟨u, hu, rfl⟩) (by simp)
  | some p =>
    have h1 := List.mem_of_find?_eq_some h
    have h2 := List.find?_some h
    obtain ⟨a, ha, rfl⟩ := List.mem_map.1 h1
    simp only [decide_eq_true_eq] at h2
    obtain rfl : a = u := by omega
    simp [ha]
theorem putK_setN {l : List Nat} {u : Nat} (h : u ∉ l) : putK (setN l) (u : Int) true = setN (l ++ [u]) := by
  rw [putK_new (fun h' => h (setN_mem.1 h')), setN, setN, List.map_append]
  rfl
theorem putK_setN_old {l : List Nat} {u : Nat} (h : u ∈ l) : putK (setN l) (u : Int) true = setN l := by
  rw [putK, if_pos (setN_mem.2 h)]
  simp only [setN, List.map_map]
  apply List.map_congr_left
  intro a _
  simp only [Function.comp_apply]
  split
  · rename_i e; rw [e]
  · rfl
theorem delK_setN (l : List Nat) (u : Nat) : delK (setN l) (u : Int) = setN (l.filter fun a => a ≠ u) := by
  simp only [delK, setN, List.filter_map]
  congr 1
  apply List.filter_congr
  intro a _
  simp only [Function.comp_apply]
  exact decide_eq_decide.2 (not_congr (by omega))
/-- a set of numbers, or none -/
def mapK (h : Value) (o : Option (List Nat)) : HP := mapHP? ekI Value.bool okI h (o.map setN)
section
variable {P : Program} {w0 : World} {S0 : FS} {n : Nat} {F : List (Nat × Value)} {L : List HP}
theorem sats_triv {w : World} : ∀ {Ks : List HP} {S : FS}, (∀ A ∈ Ks, ∀ S, A.sat S w) → sats Ks S w
  | [], _, _ => trivial
  | A :: Ks, S, h => ⟨fun _ => False, S, fun _ h => h.elim, fun _ h => h, fun _ h => h.elim, h A (.head _) _, sats_triv fun B hB => h B (.tail _ hB)⟩
theorem c_starof {R : Act → World → Prop} (Ks : List HP) (hK : ∀ A ∈ Ks, ∀ S w, A.sat S w) (h : Reach w0 S0 n F (starHP Ks :: L) R) : Reach w0 S0 n F L R :=
  h.conv fun w hs => by
    obtain ⟨S, hm, hl⟩ := hs
    exact ⟨S, hm, fun _ => False, S, fun _ h => h.elim, fun _ h => h, fun _ h => h.elim, sats_triv (fun A hA S => hK A hA S w), hl⟩
theorem c_nilmaps {R : Act → World → Prop} (m : Nat) (h : Reach w0 S0 n F (starHP (kids mapK (List.replicate m (.map none)) (List.replicate m none)) :: L) R) : Reach w0 S0 n F L R :=
  c_starof _ (fun A hA S w => by
    rw [kids_nils] at hA
    obtain rfl := (List.mem_replicate.1 hA).2
    rfl) h
/-- what sets are read as -/
structure RMs (w : World) (S : FS) (v : Value) (hs : List Value) (N : Nat) (A : Nat → Option (List Nat)) : Prop where
  shp : Shp v N
  len : hs.length = N
  ro : RO w S v hs
  none : ∀ i : Nat, i < N → A i = none → hs[i]? = some (.map none)
  some : ∀ i : Nat, ∀ l, i < N → A i = some l → ∃ b, hs[i]? = some (.map (some b)) ∧ RM ekI Value.bool okI w S (.map (some b)) (setN l)
end
theorem kids_put {α : Type} {f : Value → α → HP} {hs : List Value} {ls : List α} {k : Nat} {h : Value} {l : α} : (kids f hs ls).set k (f h l) = kids f (hs.set k h) (ls.set k l) := by
  rw [← kids_set (x := empHP), List.set_set]
theorem kids_put2 {α : Type} {f : Value → α → HP} {hs : List Value} {ls : List α} {k : Nat} {h : Value} {l : α} (hk : hs[k]? = some h) : (kids f hs ls).set k (f h l) = kids f hs (ls.set k l) := by
  rw [← kids_set2 (x := empHP) hk, List.set_set]
theorem setN_split {lf : List Nat} {l1 l2 : List (Int × Bool)} {p : Int × Bool} (h : setN lf = l1 ++ p :: l2) : ∃ (a1 : List Nat) (u : Nat) (a2 : List Nat), lf = a1 ++ u :: a2 ∧ p = ((u : Int), true) ∧ l1 ++ l2 = setN (a1 ++ a2) := by
  obtain ⟨a1, b, rfl, e1, e2⟩ := List.map_eq_append_iff.1 h
  obtain ⟨u, a2, rfl, e3, e4⟩ := List.map_eq_cons_iff.1 e2
  exact ⟨a1, u, a2, rfl, e3.symm, by rw [setN, List.map_append, e1, e4]⟩
end Go.Sl
end
section
set_option linter.unusedVariables false
set_option linter.unusedSimpArgs false
namespace Go.Sl
open Go Go.RowKit
section
variable {P : Program} {w0 : World} {S0 : FS} {n : Nat} {F : List (Nat × Value)} {L Lk : List HP} {Q : Exit → Act → World → Prop}
def cutQ {X : Type} (w0 : World) (S0 : FS) (n : Nat) (I : X → Prop) (IF : X → List (Nat × Value)) (IL : X → List HP) (Q : Exit → Act → World → Prop) : Exit → Act → World → Prop
  | .normal, a, w => ∃ x, I x ∧ Fr (IF x) n a ∧ St w0 S0 (IL x) w
  | e, a, w => Q e a w
instance {X : Type} {I : X → Prop} {IF : X → List (Nat × Value)} {IL : X → List HP} [T : PO Q] : PO (cutQ w0 S0 n I IF IL Q) := ⟨fun c a d v w h => T.ok c a d v w h⟩
theorem c_cut {X : Type} {c : Code} (I : X → Prop) (IF : X → List (Nat × Value)) (IL : X → List HP) (h : Reach w0 S0 n F L (c.wp P (cutQ w0 S0 n I IF IL Q))) (h' : ∀ x, I x → Reach w0 S0 n (IF x) (IL x) (Q .normal)) : Reach w0 S0 n F L (c.wp P Q) := by
  intro a w hf hs
  refine Code.wp_mono ?_ (h a w hf hs)
  intro e a w he
  cases e with
  | normal =>
    obtain ⟨x, hI, hF, hS⟩ := he
    exact h' x hI a w hF hS
  | _ => exact he
theorem cut_end {X : Type} {I : X → Prop} {IF : X → List (Nat × Value)} {IL : X → List HP} (x : X) (is : List Nat) (hL : pick L is = some (IL x)) (hF : covers F (IF x)) (hI : I x) : Reach w0 S0 n F L (cutQ w0 S0 n I IF IL Q .normal) :=
  fun _ _ hf hs => ⟨x, hI, hf.weaken (covers_spec hF), hs.pick is hL⟩
end
end Go.Sl
end
section
set_option linter.unusedVariables false
namespace Go.Proofs.YtpajjnkmaebhcabGreat
open Go.Sl
instance : ScTy Tryz.prog 1 := ⟨Tryz.isAgg1, Tryz.sizeOf1⟩
instance : ZrTy Tryz.prog 1 .nilFunc := ⟨Tryz.zeroValue1⟩
instance : ScTy Tryz.prog 2 := ⟨Tryz.isAgg2, Tryz.sizeOf2⟩
instance : ZrTy Tryz.prog 2 (.int .i64 0) := ⟨Tryz.zeroValue2⟩
instance : ScTy Tryz.prog 3 := ⟨Tryz.isAgg3, Tryz.sizeOf3⟩
instance : ZrTy Tryz.prog 3 (.int .i64 0) := ⟨Tryz.zeroValue3⟩
instance : ScTy Tryz.prog 4 := ⟨Tryz.isAgg4, Tryz.sizeOf4⟩
instance : ZrTy Tryz.prog 4 (.bool false) := ⟨Tryz.zeroValue4⟩
instance : ScTy Tryz.prog 5 := ⟨Tryz.isAgg5, Tryz.sizeOf5⟩
instance : ZrTy Tryz.prog 5 (.int .u8 0) := ⟨Tryz.zeroValue5⟩
instance : ScTy Tryz.prog 6 := ⟨Tryz.isAgg6, Tryz.sizeOf6⟩
instance : ZrTy Tryz.prog 6 (.int .u8 0) := ⟨Tryz.zeroValue6⟩
instance : BdTy Tryz.prog 7 (.agg #[(.int .i64 0), (.int .i64 0), (.bool false), (.int .u8 0)]) [(0, 1), (1, 1), (2, 1), (3, 1)] := ⟨Tryz.zeroValue7, _, Tryz.underlying7, fun w => by simp only [List.mapM_cons, List.mapM_nil, Sem.run_bind, Sem.run_pure, Result.andThen_ok, Tryz.sizeOf2, Tryz.sizeOf3, Tryz.sizeOf4, Tryz.sizeOf6]⟩
instance : FdTy Tryz.prog 7 0 0 0 false := ⟨_, _, Tryz.underlying7, rfl, rfl, Tryz.sizeOf2, Tryz.isAgg2⟩
instance : FdTy Tryz.prog 7 1 1 0 false := ⟨_, _, Tryz.underlying7, rfl, rfl, Tryz.sizeOf3, Tryz.isAgg3⟩
instance : FdTy Tryz.prog 7 2 2 0 false := ⟨_, _, Tryz.underlying7, rfl, rfl, Tryz.sizeOf4, Tryz.isAgg4⟩
instance : FdTy Tryz.prog 7 3 3 0 false := ⟨_, _, Tryz.underlying7, rfl, rfl, Tryz.sizeOf6, Tryz.isAgg6⟩
instance : AgTy Tryz.prog 7 4 := ⟨Tryz.isAgg7, Tryz.sizeOf7⟩
instance : ZrTy Tryz.prog 7 (.agg #[(.int .i64 0), (.int .i64 0), (.bool false), (.int .u8 0)]) := ⟨Tryz.zeroValue7⟩
instance : BdTy Tryz.prog 8 (.agg #[(.int .i64 0), (.int .i64 0), (.bool false), (.int .u8 0)]) [(0, 1), (1, 1), (2, 1), (3, 1)] := ⟨Tryz.zeroValue8, _, Tryz.underlying8, fun w => by simp only [List.mapM_cons, List.mapM_nil, Sem.run_bind, Sem.run_pure, Result.andThen_ok, Tryz.sizeOf2, Tryz.sizeOf3, Tryz.sizeOf4, Tryz.sizeOf6]⟩
instance : FdTy Tryz.prog 8 0 0 0 false := ⟨_, _, Tryz.underlying8, rfl, rfl, Tryz.sizeOf2, Tryz.isAgg2⟩
instance : FdTy Tryz.prog 8 1 1 0 false := ⟨_, _, Tryz.underlying8, rfl, rfl, Tryz.sizeOf3, Tryz.isAgg3⟩
instance : FdTy Tryz.prog 8 2 2 0 false := ⟨_, _, Tryz.underlying8, rfl, rfl, Tryz.sizeOf4, Tryz.isAgg4⟩
instance : FdTy Tryz.prog 8 3 3 0 false := ⟨_, _, Tryz.underlying8, rfl, rfl, Tryz.sizeOf6, Tryz.isAgg6⟩
instance : AgTy Tryz.prog 8 4 := ⟨Tryz.isAgg8, Tryz.sizeOf8⟩
instance : ZrTy Tryz.prog 8 (.agg #[(.int .i64 0), (.int .i64 0), (.bool false), (.int .u8 0)]) := ⟨Tryz.zeroValue8⟩
instance : ScTy Tryz.prog 9 := ⟨Tryz.isAgg9, Tryz.sizeOf9⟩
instance : ZrTy Tryz.prog 9 (.string ⟨#[]⟩) := ⟨Tryz.zeroValue9⟩
instance : StTy Tryz.prog 9 := ⟨Tryz.underlying9⟩
instance : ScTy Tryz.prog 10 := ⟨Tryz.isAgg10, Tryz.sizeOf10⟩
instance : ZrTy Tryz.prog 10 (.string ⟨#[]⟩) := ⟨Tryz.zeroValue10⟩
instance : StTy Tryz.prog 10 := ⟨Tryz.underlying10⟩
instance : ScTy Tryz.prog 11 := ⟨Tryz.isAgg11, Tryz.sizeOf11⟩
instance : ZrTy Tryz.prog 11 (.string ⟨#[]⟩) := ⟨Tryz.zeroValue11⟩
instance : StTy Tryz.prog 11 := ⟨Tryz.underlying11⟩
instance : ScTy Tryz.prog 12 := ⟨Tryz.isAgg12, Tryz.sizeOf12⟩
instance : ZrTy Tryz.prog 12 (.int .u64 0) := ⟨Tryz.zeroValue12⟩
instance : BdTy Tryz.prog 13 (.agg #[(.string ⟨#[]⟩), (.int .u64 0)]) [(0, 1), (1, 1)] := ⟨Tryz.zeroValue13, _, Tryz.underlying13, fun w => by simp only [List.mapM_cons, List.mapM_nil, Sem.run_bind, Sem.run_pure, Result.andThen_ok, Tryz.sizeOf9, Tryz.sizeOf12]⟩
instance : FdTy Tryz.prog 13 0 0 0 false := ⟨_, _, Tryz.underlying13, rfl, rfl, Tryz.sizeOf9, Tryz.isAgg9⟩
instance : FdTy Tryz.prog 13 1 1 0 false := ⟨_, _, Tryz.underlying13, rfl, rfl, Tryz.sizeOf12, Tryz.isAgg12⟩
instance : AgTy Tryz.prog 13 2 := ⟨Tryz.isAgg13, Tryz.sizeOf13⟩
instance : ZrTy Tryz.prog 13 (.agg #[(.string ⟨#[]⟩), (.int .u64 0)]) := ⟨Tryz.zeroValue13⟩
instance : BdTy Tryz.prog 14 (.agg #[(.string ⟨#[]⟩), (.int .u64 0)]) [(0, 1), (1, 1)] := ⟨Tryz.zeroValue14, _, Tryz.underlying14, fun w => by simp only [List.mapM_cons, List.mapM_nil, Sem.run_bind, Sem.run_pure, Result.andThen_ok, Tryz.sizeOf9, Tryz.sizeOf12]⟩
instance : FdTy Tryz.prog 14 0 0 0 false := ⟨_, _, Tryz.underlying14, rfl, rfl, Tryz.sizeOf9, Tryz.isAgg9⟩
instance : FdTy Tryz.prog 14 1 1 0 false := ⟨_, _, Tryz.underlying14, rfl, rfl, Tryz.sizeOf12, Tryz.isAgg12⟩
instance : AgTy Tryz.prog 14 2 := ⟨Tryz.isAgg14, Tryz.sizeOf14⟩
instance : ZrTy Tryz.prog 14 (.agg #[(.string ⟨#[]⟩), (.int .u64 0)]) := ⟨Tryz.zeroValue14⟩
instance : ScTy Tryz.prog 15 := ⟨Tryz.isAgg15, Tryz.sizeOf15⟩
instance : ZrTy Tryz.prog 15 (.pointer none) := ⟨Tryz.zeroValue15⟩
instance : ScTy Tryz.prog 16 := ⟨Tryz.isAgg16, Tryz.sizeOf16⟩
instance : ZrTy Tryz.prog 16 (.pointer none) := ⟨Tryz.zeroValue16⟩
instance : ScTy Tryz.prog 17 := ⟨Tryz.isAgg17, Tryz.sizeOf17⟩
instance : ZrTy Tryz.prog 17 (.pointer none) := ⟨Tryz.zeroValue17⟩
instance : BdTy Tryz.prog 18 (.agg #[(.pointer none)]) [(0, 1)] := ⟨Tryz.zeroValue18, _, Tryz.underlying18, fun w => by simp only [List.mapM_cons, List.mapM_nil, Sem.run_bind, Sem.run_pure, Result.andThen_ok, Tryz.sizeOf17]⟩
instance : FdTy Tryz.prog 18 0 0 0 false := ⟨_, _, Tryz.underlying18, rfl, rfl, Tryz.sizeOf17, Tryz.isAgg17⟩
instance : AgTy Tryz.prog 18 1 := ⟨Tryz.isAgg18, Tryz.sizeOf18⟩
instance : ZrTy Tryz.prog 18 (.agg #[(.pointer none)]) := ⟨Tryz.zeroValue18⟩
instance : BdTy Tryz.prog 19 (.agg #[(.pointer none)]) [(0, 1)] := ⟨Tryz.zeroValue19, _, Tryz.underlying19, fun w => by simp only [List.mapM_cons, List.mapM_nil, Sem.run_bind, Sem.run_pure, Result.andThen_ok, Tryz.sizeOf17]⟩
instance : FdTy Tryz.prog 19 0 0 0 false := ⟨_, _, Tryz.underlying19, rfl, rfl, Tryz.sizeOf17, Tryz.isAgg17⟩
instance : AgTy Tryz.prog 19 1 := ⟨Tryz.isAgg19, Tryz.sizeOf19⟩
instance : ZrTy Tryz.prog 19 (.agg #[(.pointer none)]) := ⟨Tryz.zeroValue19⟩
instance : ScTy Tryz.prog 20 := ⟨Tryz.isAgg20, Tryz.sizeOf20⟩
instance : ZrTy Tryz.prog 20 .nilIface := ⟨Tryz.zeroValue20⟩
instance : ScTy Tryz.prog 21 := ⟨Tryz.isAgg21, Tryz.sizeOf21⟩
instance : ZrTy Tryz.prog 21 (.int .i32 0) := ⟨Tryz.zeroValue21⟩
instance : ScTy Tryz.prog 22 := ⟨Tryz.isAgg22, Tryz.sizeOf22⟩
instance : ZrTy Tryz.prog 22 (.slice none 0 0) := ⟨Tryz.zeroValue22⟩
instance : SlTy Tryz.prog 22 37 (.agg #[(.int .i64 0), (.int .i64 0), (.int .i64 0)]) 3 24 := ⟨Tryz.underlying22, by kernel_rfl, Tryz.sizeOf37, rfl, by decide, by decide⟩
instance : BdTy Tryz.prog 23 (.agg #[(.int .i64 0), (.slice none 0 0)]) [(0, 1), (1, 1)] := ⟨Tryz.zeroValue23, _, Tryz.underlying23, fun w => by simp only [List.mapM_cons, List.mapM_nil, Sem.run_bind, Sem.run_pure, Result.andThen_ok, Tryz.sizeOf3, Tryz.sizeOf22]⟩
instance : FdTy Tryz.prog 23 0 0 0 false := ⟨_, _, Tryz.underlying23, rfl, rfl, Tryz.sizeOf3, Tryz.isAgg3⟩
instance : FdTy Tryz.prog 23 1 1 0 false := ⟨_, _, Tryz.underlying23, rfl, rfl, Tryz.sizeOf22, Tryz.isAgg22⟩
instance : AgTy Tryz.prog 23 2 := ⟨Tryz.isAgg23, Tryz.sizeOf23⟩
instance : ZrTy Tryz.prog 23 (.agg #[(.int .i64 0), (.slice none 0 0)]) := ⟨Tryz.zeroValue23⟩
instance : BdTy Tryz.prog 24 (.agg #[(.int .i64 0), (.slice none 0 0)]) [(0, 1), (1, 1)] := ⟨Tryz.zeroValue24, _, Tryz.underlying24, fun w => by simp only [List.mapM_cons, List.mapM_nil, Sem.run_bind, Sem.run_pure, Result.andThen_ok, Tryz.sizeOf3, Tryz.sizeOf22]⟩
instance : FdTy Tryz.prog 24 0 0 0 false := ⟨_, _, Tryz.underlying24, rfl, rfl, Tryz.sizeOf3, Tryz.isAgg3⟩
instance : FdTy Tryz.prog 24 1 1 0 false := ⟨_, _, Tryz.underlying24, rfl, rfl, Tryz.sizeOf22, Tryz.isAgg22⟩
instance : AgTy Tryz.prog 24 2 := ⟨Tryz.isAgg24, Tryz.sizeOf24⟩
instance : ZrTy Tryz.prog 24 (.agg #[(.int .i64 0), (.slice none 0 0)]) := ⟨Tryz.zeroValue24⟩
instance : ScTy Tryz.prog 25 := ⟨Tryz.isAgg25, Tryz.sizeOf25⟩
instance : ZrTy Tryz.prog 25 (.slice none 0 0) := ⟨Tryz.zeroValue25⟩
instance : SlTy Tryz.prog 25 28 (.slice none 0 0) 1 24 := ⟨Tryz.underlying25, by kernel_rfl, Tryz.sizeOf28, rfl, by decide, by decide⟩
instance : ScTy Tryz.prog 26 := ⟨Tryz.isAgg26, Tryz.sizeOf26⟩
instance : ZrTy Tryz.prog 26 .nilFunc := ⟨Tryz.zeroValue26⟩
instance : ScTy Tryz.prog 27 := ⟨Tryz.isAgg27, Tryz.sizeOf27⟩
instance : ZrTy Tryz.prog 27 .nilFunc := ⟨Tryz.zeroValue27⟩
instance : ScTy Tryz.prog 28 := ⟨Tryz.isAgg28, Tryz.sizeOf28⟩
instance : ZrTy Tryz.prog 28 (.slice none 0 0) := ⟨Tryz.zeroValue28⟩
instance : SlTy Tryz.prog 28 3 (.int .i64 0) 1 8 := ⟨Tryz.underlying28, by kernel_rfl, Tryz.sizeOf3, rfl, by decide, by decide⟩
instance : ScTy Tryz.prog 29 := ⟨Tryz.isAgg29, Tryz.sizeOf29⟩
instance : ZrTy Tryz.prog 29 (.int .i64 0) := ⟨Tryz.zeroValue29⟩
instance : ScTy Tryz.prog 32 := ⟨Tryz.isAgg32, Tryz.sizeOf32⟩
instance : ZrTy Tryz.prog 32 .nilFunc := ⟨Tryz.zeroValue32⟩
instance : ScTy Tryz.prog 33 := ⟨Tryz.isAgg33, Tryz.sizeOf33⟩
instance : ZrTy Tryz.prog 33 .nilFunc := ⟨Tryz.zeroValue33⟩
instance : ScTy Tryz.prog 34 := ⟨Tryz.isAgg34, Tryz.sizeOf34⟩
instance : ZrTy Tryz.prog 34 .nilFunc := ⟨Tryz.zeroValue34⟩
instance : ScTy Tryz.prog 35 := ⟨Tryz.isAgg35, Tryz.sizeOf35⟩
instance : ZrTy Tryz.prog 35 .nilFunc := ⟨Tryz.zeroValue35⟩
instance : BdTy Tryz.prog 36 (.agg #[(.int .i64 0), (.int .i64 0), (.int .i64 0)]) [(0, 1), (1, 1), (2, 1)] := ⟨Tryz.zeroValue36, _, Tryz.underlying36, fun w => by simp only [List.mapM_cons, List.mapM_nil, Sem.run_bind, Sem.run_pure, Result.andThen_ok, Tryz.sizeOf2, Tryz.sizeOf3]⟩
instance : FdTy Tryz.prog 36 0 0 0 false := ⟨_, _, Tryz.underlying36, rfl, rfl, Tryz.sizeOf3, Tryz.isAgg3⟩
instance : FdTy Tryz.prog 36 1 1 0 false := ⟨_, _, Tryz.underlying36, rfl, rfl, Tryz.sizeOf3, Tryz.isAgg3⟩
instance : FdTy Tryz.prog 36 2 2 0 false := ⟨_, _, Tryz.underlying36, rfl, rfl, Tryz.sizeOf2, Tryz.isAgg2⟩
instance : AgTy Tryz.prog 36 3 := ⟨Tryz.isAgg36, Tryz.sizeOf36⟩
instance : ZrTy Tryz.prog 36 (.agg #[(.int .i64 0), (.int .i64 0), (.int .i64 0)]) := ⟨Tryz.zeroValue36⟩
instance : BdTy Tryz.prog 37 (.agg #[(.int .i64 0), (.int .i64 0), (.int .i64 0)]) [(0, 1), (1, 1), (2, 1)] := ⟨Tryz.zeroValue37, _, Tryz.underlying37, fun w => by simp only [List.mapM_cons, List.mapM_nil, Sem.run_bind, Sem.run_pure, Result.andThen_ok, Tryz.sizeOf2, Tryz.sizeOf3]⟩
instance : FdTy Tryz.prog 37 0 0 0 false := ⟨_, _, Tryz.underlying37, rfl, rfl, Tryz.sizeOf3, Tryz.isAgg3⟩
instance : FdTy Tryz.prog 37 1 1 0 false := ⟨_, _, Tryz.underlying37, rfl, rfl, Tryz.sizeOf3, Tryz.isAgg3⟩
instance : FdTy Tryz.prog 37 2 2 0 false := ⟨_, _, Tryz.underlying37, rfl, rfl, Tryz.sizeOf2, Tryz.isAgg2⟩
instance : AgTy Tryz.prog 37 3 := ⟨Tryz.isAgg37, Tryz.sizeOf37⟩
instance : ZrTy Tryz.prog 37 (.agg #[(.int .i64 0), (.int .i64 0), (.int .i64 0)]) := ⟨Tryz.zeroValue37⟩
instance : ScTy Tryz.prog 39 := ⟨Tryz.isAgg39, Tryz.sizeOf39⟩
instance : ZrTy Tryz.prog 39 .nilFunc := ⟨Tryz.zeroValue39⟩
instance : ScTy Tryz.prog 40 := ⟨Tryz.isAgg40, Tryz.sizeOf40⟩
instance : ZrTy Tryz.prog 40 .nilFunc := ⟨Tryz.zeroValue40⟩
instance : ScTy Tryz.prog 41 := ⟨Tryz.isAgg41, Tryz.sizeOf41⟩
instance : ZrTy Tryz.prog 41 .nilFunc := ⟨Tryz.zeroValue41⟩
instance : ScTy Tryz.prog 42 := ⟨Tryz.isAgg42, Tryz.sizeOf42⟩
instance : ZrTy Tryz.prog 42 .nilFunc := ⟨Tryz.zeroValue42⟩
instance : ScTy Tryz.prog 44 := ⟨Tryz.isAgg44, Tryz.sizeOf44⟩
instance : ZrTy Tryz.prog 44 .nilFunc := ⟨Tryz.zeroValue44⟩
instance : ScTy Tryz.prog 45 := ⟨Tryz.isAgg45, Tryz.sizeOf45⟩
instance : ZrTy Tryz.prog 45 .nilFunc := ⟨Tryz.zeroValue45⟩
instance : ScTy Tryz.prog 46 := ⟨Tryz.isAgg46, Tryz.sizeOf46⟩
instance : ZrTy Tryz.prog 46 .nilFunc := ⟨Tryz.zeroValue46⟩
instance : ScTy Tryz.prog 48 := ⟨Tryz.isAgg48, Tryz.sizeOf48⟩
instance : ZrTy Tryz.prog 48 .nilFunc := ⟨Tryz.zeroValue48⟩
instance : ScTy Tryz.prog 49 := ⟨Tryz.isAgg49, Tryz.sizeOf49⟩
instance : ZrTy Tryz.prog 49 .nilFunc := ⟨Tryz.zeroValue49⟩
instance : ScTy Tryz.prog 50 := ⟨Tryz.isAgg50, Tryz.sizeOf50⟩
instance : ZrTy Tryz.prog 50 .nilFunc := ⟨Tryz.zeroValue50⟩
instance : ScTy Tryz.prog 51 := ⟨Tryz.isAgg51, Tryz.sizeOf51⟩
instance : ZrTy Tryz.prog 51 .nilFunc := ⟨Tryz.zeroValue51⟩
instance : ScTy Tryz.prog 52 := ⟨Tryz.isAgg52, Tryz.sizeOf52⟩
instance : ZrTy Tryz.prog 52 .nilFunc := ⟨Tryz.zeroValue52⟩
instance : ScTy Tryz.prog 53 := ⟨Tryz.isAgg53, Tryz.sizeOf53⟩
instance : ZrTy Tryz.prog 53 .nilFunc := ⟨Tryz.zeroValue53⟩
instance : ScTy Tryz.prog 54 := ⟨Tryz.isAgg54, Tryz.sizeOf54⟩
instance : ZrTy Tryz.prog 54 .nilFunc := ⟨Tryz.zeroValue54⟩
instance : ScTy Tryz.prog 55 := ⟨Tryz.isAgg55, Tryz.sizeOf55⟩
instance : ZrTy Tryz.prog 55 (.pointer none) := ⟨Tryz.zeroValue55⟩
instance : ScTy Tryz.prog 56 := ⟨Tryz.isAgg56, Tryz.sizeOf56⟩
instance : ZrTy Tryz.prog 56 (.slice none 0 0) := ⟨Tryz.zeroValue56⟩
instance : SlTy Tryz.prog 56 62 (.map none) 1 8 := ⟨Tryz.underlying56, by kernel_rfl, Tryz.sizeOf62, rfl, by decide, by decide⟩
instance : ScTy Tryz.prog 57 := ⟨Tryz.isAgg57, Tryz.sizeOf57⟩
instance : ZrTy Tryz.prog 57 (.slice none 0 0) := ⟨Tryz.zeroValue57⟩
instance : SlTy Tryz.prog 57 4 (.bool false) 1 1 := ⟨Tryz.underlying57, by kernel_rfl, Tryz.sizeOf4, rfl, by decide, by decide⟩
instance : AgTy Tryz.prog 58 6 := ⟨Tryz.isAgg58, Tryz.sizeOf58⟩
instance : ZrTy Tryz.prog 58 (.agg #[(.slice none 0 0), (.slice none 0 0), (.slice none 0 0), (.slice none 0 0), (.slice none 0 0), (.slice none 0 0)]) := ⟨Tryz.zeroValue58⟩
instance : ArTy Tryz.prog 58 6 28 1 := ⟨Tryz.underlying58, Tryz.sizeOf28⟩
instance : ScTy Tryz.prog 59 := ⟨Tryz.isAgg59, Tryz.sizeOf59⟩
instance : ZrTy Tryz.prog 59 (.slice none 0 0) := ⟨Tryz.zeroValue59⟩
instance : SlTy Tryz.prog 59 68 (.agg #[(.int .i64 0), (.int .i64 0), (.slice none 0 0)]) 3 40 := ⟨Tryz.underlying59, by kernel_rfl, Tryz.sizeOf68, rfl, by decide, by decide⟩
instance : BdTy Tryz.prog 60 (.agg #[(.slice none 0 0), (.slice none 0 0), (.slice none 0 0), (.slice none 0 0), (.slice none 0 0), (.slice none 0 0), (.slice none 0 0), (.slice none 0 0), (.slice none 0 0)]) [(0, 1), (1, 1), (2, 6), (8, 1)] := ⟨Tryz.zeroValue60, _, Tryz.underlying60, fun w => by simp only [List.mapM_cons, List.mapM_nil, Sem.run_bind, Sem.run_pure, Result.andThen_ok, Tryz.sizeOf56, Tryz.sizeOf57, Tryz.sizeOf58, Tryz.sizeOf59]⟩
instance : FdTy Tryz.prog 60 0 0 0 false := ⟨_, _, Tryz.underlying60, rfl, rfl, Tryz.sizeOf56, Tryz.isAgg56⟩
instance : FdTy Tryz.prog 60 1 1 0 false := ⟨_, _, Tryz.underlying60, rfl, rfl, Tryz.sizeOf57, Tryz.isAgg57⟩
instance : FdTy Tryz.prog 60 2 2 5 true := ⟨_, _, Tryz.underlying60, rfl, rfl, Tryz.sizeOf58, Tryz.isAgg58⟩
instance : FdTy Tryz.prog 60 3 8 0 false := ⟨_, _, Tryz.underlying60, rfl, rfl, Tryz.sizeOf59, Tryz.isAgg59⟩
instance : AgTy Tryz.prog 60 9 := ⟨Tryz.isAgg60, Tryz.sizeOf60⟩
instance : ZrTy Tryz.prog 60 (.agg #[(.slice none 0 0), (.slice none 0 0), (.slice none 0 0), (.slice none 0 0), (.slice none 0 0), (.slice none 0 0), (.slice none 0 0), (.slice none 0 0), (.slice none 0 0)]) := ⟨Tryz.zeroValue60⟩
instance : BdTy Tryz.prog 61 (.agg #[(.slice none 0 0), (.slice none 0 0), (.slice none 0 0), (.slice none 0 0), (.slice none 0 0), (.slice none 0 0), (.slice none 0 0), (.slice none 0 0), (.slice none 0 0)]) [(0, 1), (1, 1), (2, 6), (8, 1)] := ⟨Tryz.zeroValue61, _, Tryz.underlying61, fun w => by simp only [List.mapM_cons, List.mapM_nil, Sem.run_bind, Sem.run_pure, Result.andThen_ok, Tryz.sizeOf56, Tryz.sizeOf57, Tryz.sizeOf58, Tryz.sizeOf59]⟩
instance : FdTy Tryz.prog 61 0 0 0 false := ⟨_, _, Tryz.underlying61, rfl, rfl, Tryz.sizeOf56, Tryz.isAgg56⟩
instance : FdTy Tryz.prog 61 1 1 0 false := ⟨_, _, Tryz.underlying61, rfl, rfl, Tryz.sizeOf57, Tryz.isAgg57⟩
instance : FdTy Tryz.prog 61 2 2 5 true := ⟨_, _, Tryz.underlying61, rfl, rfl, Tryz.sizeOf58, Tryz.isAgg58⟩
instance : FdTy Tryz.prog 61 3 8 0 false := ⟨_, _, Tryz.underlying61, rfl, rfl, Tryz.sizeOf59, Tryz.isAgg59⟩
instance : AgTy Tryz.prog 61 9 := ⟨Tryz.isAgg61, Tryz.sizeOf61⟩
instance : ZrTy Tryz.prog 61 (.agg #[(.slice none 0 0), (.slice none 0 0), (.slice none 0 0), (.slice none 0 0), (.slice none 0 0), (.slice none 0 0), (.slice none 0 0), (.slice none 0 0), (.slice none 0 0)]) := ⟨Tryz.zeroValue61⟩
instance : ScTy Tryz.prog 62 := ⟨Tryz.isAgg62, Tryz.sizeOf62⟩
instance : ZrTy Tryz.prog 62 (.map none) := ⟨Tryz.zeroValue62⟩
instance : MpTy Tryz.prog 62 3 4 := ⟨Tryz.underlying62⟩
instance : ScTy Tryz.prog 63 := ⟨Tryz.isAgg63, Tryz.sizeOf63⟩
instance : ZrTy Tryz.prog 63 .nilFunc := ⟨Tryz.zeroValue63⟩
instance : ScTy Tryz.prog 64 := ⟨Tryz.isAgg64, Tryz.sizeOf64⟩
instance : ZrTy Tryz.prog 64 .nilFunc := ⟨Tryz.zeroValue64⟩
instance : ScTy Tryz.prog 65 := ⟨Tryz.isAgg65, Tryz.sizeOf65⟩
instance : ZrTy Tryz.prog 65 .nilFunc := ⟨Tryz.zeroValue65⟩
instance : ScTy Tryz.prog 66 := ⟨Tryz.isAgg66, Tryz.sizeOf66⟩
instance : ZrTy Tryz.prog 66 .nilFunc := ⟨Tryz.zeroValue66⟩
instance : BdTy Tryz.prog 67 (.agg #[(.int .i64 0), (.int .i64 0), (.slice none 0 0)]) [(0, 1), (1, 1), (2, 1)] := ⟨Tryz.zeroValue67, _, Tryz.underlying67, fun w => by simp only [List.mapM_cons, List.mapM_nil, Sem.run_bind, Sem.run_pure, Result.andThen_ok, Tryz.sizeOf3, Tryz.sizeOf28]⟩
instance : FdTy Tryz.prog 67 0 0 0 false := ⟨_, _, Tryz.underlying67, rfl, rfl, Tryz.sizeOf3, Tryz.isAgg3⟩
instance : FdTy Tryz.prog 67 1 1 0 false := ⟨_, _, Tryz.underlying67, rfl, rfl, Tryz.sizeOf3, Tryz.isAgg3⟩
instance : FdTy Tryz.prog 67 2 2 0 false := ⟨_, _, Tryz.underlying67, rfl, rfl, Tryz.sizeOf28, Tryz.isAgg28⟩
instance : AgTy Tryz.prog 67 3 := ⟨Tryz.isAgg67, Tryz.sizeOf67⟩
instance : ZrTy Tryz.prog 67 (.agg #[(.int .i64 0), (.int .i64 0), (.slice none 0 0)]) := ⟨Tryz.zeroValue67⟩
instance : BdTy Tryz.prog 68 (.agg #[(.int .i64 0), (.int .i64 0), (.slice none 0 0)]) [(0, 1), (1, 1), (2, 1)] := ⟨Tryz.zeroValue68, _, Tryz.underlying68, fun w => by simp only [List.mapM_cons, List.mapM_nil, Sem.run_bind, Sem.run_pure, Result.andThen_ok, Tryz.sizeOf3, Tryz.sizeOf28]⟩
instance : FdTy Tryz.prog 68 0 0 0 false := ⟨_, _, Tryz.underlying68, rfl, rfl, Tryz.sizeOf3, Tryz.isAgg3⟩
instance : FdTy Tryz.prog 68 1 1 0 false := ⟨_, _, Tryz.underlying68, rfl, rfl, Tryz.sizeOf3, Tryz.isAgg3⟩
instance : FdTy Tryz.prog 68 2 2 0 false := ⟨_, _, Tryz.underlying68, rfl, rfl, Tryz.sizeOf28, Tryz.isAgg28⟩
instance : AgTy Tryz.prog 68 3 := ⟨Tryz.isAgg68, Tryz.sizeOf68⟩
instance : ZrTy Tryz.prog 68 (.agg #[(.int .i64 0), (.int .i64 0), (.slice none 0 0)]) := ⟨Tryz.zeroValue68⟩
instance : ScTy Tryz.prog 69 := ⟨Tryz.isAgg69, Tryz.sizeOf69⟩
instance : ZrTy Tryz.prog 69 .nilFunc := ⟨Tryz.zeroValue69⟩
instance : ScTy Tryz.prog 70 := ⟨Tryz.isAgg70, Tryz.sizeOf70⟩
instance : ZrTy Tryz.prog 70 .nilFunc := ⟨Tryz.zeroValue70⟩
instance : ScTy Tryz.prog 71 := ⟨Tryz.isAgg71, Tryz.sizeOf71⟩
instance : ZrTy Tryz.prog 71 .nilFunc := ⟨Tryz.zeroValue71⟩
instance : ScTy Tryz.prog 72 := ⟨Tryz.isAgg72, Tryz.sizeOf72⟩
instance : ZrTy Tryz.prog 72 .nilFunc := ⟨Tryz.zeroValue72⟩
instance : ScTy Tryz.prog 74 := ⟨Tryz.isAgg74, Tryz.sizeOf74⟩
instance : ZrTy Tryz.prog 74 .nilFunc := ⟨Tryz.zeroValue74⟩
instance : ScTy Tryz.prog 76 := ⟨Tryz.isAgg76, Tryz.sizeOf76⟩
instance : ZrTy Tryz.prog 76 .nilFunc := ⟨Tryz.zeroValue76⟩
instance : ScTy Tryz.prog 77 := ⟨Tryz.isAgg77, Tryz.sizeOf77⟩
instance : ZrTy Tryz.prog 77 (.map none) := ⟨Tryz.zeroValue77⟩
instance : MpTy Tryz.prog 77 3 3 := ⟨Tryz.underlying77⟩
instance : ScTy Tryz.prog 80 := ⟨Tryz.isAgg80, Tryz.sizeOf80⟩
instance : ZrTy Tryz.prog 80 .nilFunc := ⟨Tryz.zeroValue80⟩
instance : ScTy Tryz.prog 81 := ⟨Tryz.isAgg81, Tryz.sizeOf81⟩
instance : ZrTy Tryz.prog 81 .nilFunc := ⟨Tryz.zeroValue81⟩
instance : ScTy Tryz.prog 82 := ⟨Tryz.isAgg82, Tryz.sizeOf82⟩
instance : ZrTy Tryz.prog 82 .nilFunc := ⟨Tryz.zeroValue82⟩
instance : ScTy Tryz.prog 84 := ⟨Tryz.isAgg84, Tryz.sizeOf84⟩
instance : ZrTy Tryz.prog 84 .nilFunc := ⟨Tryz.zeroValue84⟩
instance : ScTy Tryz.prog 88 := ⟨Tryz.isAgg88, Tryz.sizeOf88⟩
instance : ZrTy Tryz.prog 88 .nilFunc := ⟨Tryz.zeroValue88⟩
instance : ScTy Tryz.prog 89 := ⟨Tryz.isAgg89, Tryz.sizeOf89⟩
instance : ZrTy Tryz.prog 89 .nilFunc := ⟨Tryz.zeroValue89⟩
instance : ScTy Tryz.prog 90 := ⟨Tryz.isAgg90, Tryz.sizeOf90⟩
instance : ZrTy Tryz.prog 90 .nilFunc := ⟨Tryz.zeroValue90⟩
instance : ScTy Tryz.prog 91 := ⟨Tryz.isAgg91, Tryz.sizeOf91⟩
instance : ZrTy Tryz.prog 91 .nilFunc := ⟨Tryz.zeroValue91⟩
instance : ScTy Tryz.prog 95 := ⟨Tryz.isAgg95, Tryz.sizeOf95⟩
instance : ZrTy Tryz.prog 95 .nilFunc := ⟨Tryz.zeroValue95⟩
instance : ScTy Tryz.prog 96 := ⟨Tryz.isAgg96, Tryz.sizeOf96⟩
instance : ZrTy Tryz.prog 96 .nilFunc := ⟨Tryz.zeroValue96⟩
instance : ScTy Tryz.prog 97 := ⟨Tryz.isAgg97, Tryz.sizeOf97⟩
instance : ZrTy Tryz.prog 97 (.slice none 0 0) := ⟨Tryz.zeroValue97⟩
instance : SlTy Tryz.prog 97 101 (.slice none 0 0) 1 24 := ⟨Tryz.underlying97, by kernel_rfl, Tryz.sizeOf101, rfl, by decide, by decide⟩
instance : ScTy Tryz.prog 98 := ⟨Tryz.isAgg98, Tryz.sizeOf98⟩
instance : ZrTy Tryz.prog 98 .nilFunc := ⟨Tryz.zeroValue98⟩
instance : BdTy Tryz.prog 99 (.agg #[(.int .i64 0), (.int .i64 0)]) [(0, 1), (1, 1)] := ⟨Tryz.zeroValue99, _, Tryz.underlying99, fun w => by simp only [List.mapM_cons, List.mapM_nil, Sem.run_bind, Sem.run_pure, Result.andThen_ok, Tryz.sizeOf3]⟩
instance : FdTy Tryz.prog 99 0 0 0 false := ⟨_, _, Tryz.underlying99, rfl, rfl, Tryz.sizeOf3, Tryz.isAgg3⟩
instance : FdTy Tryz.prog 99 1 1 0 false := ⟨_, _, Tryz.underlying99, rfl, rfl, Tryz.sizeOf3, Tryz.isAgg3⟩
instance : AgTy Tryz.prog 99 2 := ⟨Tryz.isAgg99, Tryz.sizeOf99⟩
instance : ZrTy Tryz.prog 99 (.agg #[(.int .i64 0), (.int .i64 0)]) := ⟨Tryz.zeroValue99⟩
instance : BdTy Tryz.prog 100 (.agg #[(.int .i64 0), (.int .i64 0)]) [(0, 1), (1, 1)] := ⟨Tryz.zeroValue100, _, Tryz.underlying100, fun w => by simp only [List.mapM_cons, List.mapM_nil, Sem.run_bind, Sem.run_pure, Result.andThen_ok, Tryz.sizeOf3]⟩
instance : FdTy Tryz.prog 100 0 0 0 false := ⟨_, _, Tryz.underlying100, rfl, rfl, Tryz.sizeOf3, Tryz.isAgg3⟩
instance : FdTy Tryz.prog 100 1 1 0 false := ⟨_, _, Tryz.underlying100, rfl, rfl, Tryz.sizeOf3, Tryz.isAgg3⟩
instance : AgTy Tryz.prog 100 2 := ⟨Tryz.isAgg100, Tryz.sizeOf100⟩
instance : ZrTy Tryz.prog 100 (.agg #[(.int .i64 0), (.int .i64 0)]) := ⟨Tryz.zeroValue100⟩
instance : ScTy Tryz.prog 101 := ⟨Tryz.isAgg101, Tryz.sizeOf101⟩
instance : ZrTy Tryz.prog 101 (.slice none 0 0) := ⟨Tryz.zeroValue101⟩
instance : SlTy Tryz.prog 101 100 (.agg #[(.int .i64 0), (.int .i64 0)]) 2 16 := ⟨Tryz.underlying101, by kernel_rfl, Tryz.sizeOf100, rfl, by decide, by decide⟩
instance : ScTy Tryz.prog 103 := ⟨Tryz.isAgg103, Tryz.sizeOf103⟩
instance : ZrTy Tryz.prog 103 .nilFunc := ⟨Tryz.zeroValue103⟩
instance : ScTy Tryz.prog 104 := ⟨Tryz.isAgg104, Tryz.sizeOf104⟩
instance : ZrTy Tryz.prog 104 .nilFunc := ⟨Tryz.zeroValue104⟩
instance : ScTy Tryz.prog 105 := ⟨Tryz.isAgg105, Tryz.sizeOf105⟩
instance : ZrTy Tryz.prog 105 .nilFunc := ⟨Tryz.zeroValue105⟩
instance : ScTy Tryz.prog 106 := ⟨Tryz.isAgg106, Tryz.sizeOf106⟩
instance : ZrTy Tryz.prog 106 .nilFunc := ⟨Tryz.zeroValue106⟩
instance : ScTy Tryz.prog 107 := ⟨Tryz.isAgg107, Tryz.sizeOf107⟩
instance : ZrTy Tryz.prog 107 .nilFunc := ⟨Tryz.zeroValue107⟩
instance : ScTy Tryz.prog 108 := ⟨Tryz.isAgg108, Tryz.sizeOf108⟩
instance : ZrTy Tryz.prog 108 .nilFunc := ⟨Tryz.zeroValue108⟩
instance : ScTy Tryz.prog 109 := ⟨Tryz.isAgg109, Tryz.sizeOf109⟩
instance : ZrTy Tryz.prog 109 .nilFunc := ⟨Tryz.zeroValue109⟩
instance : ScTy Tryz.prog 110 := ⟨Tryz.isAgg110, Tryz.sizeOf110⟩
instance : ZrTy Tryz.prog 110 .nilFunc := ⟨Tryz.zeroValue110⟩
instance : ScTy Tryz.prog 111 := ⟨Tryz.isAgg111, Tryz.sizeOf111⟩
instance : ZrTy Tryz.prog 111 (.int .u64 0) := ⟨Tryz.zeroValue111⟩
instance : ScTy Tryz.prog 114 := ⟨Tryz.isAgg114, Tryz.sizeOf114⟩
instance : ZrTy Tryz.prog 114 .nilFunc := ⟨Tryz.zeroValue114⟩
instance : ScTy Tryz.prog 115 := ⟨Tryz.isAgg115, Tryz.sizeOf115⟩
instance : ZrTy Tryz.prog 115 .nilFunc := ⟨Tryz.zeroValue115⟩
instance : ScTy Tryz.prog 116 := ⟨Tryz.isAgg116, Tryz.sizeOf116⟩
instance : ZrTy Tryz.prog 116 .nilFunc := ⟨Tryz.zeroValue116⟩
instance : ScTy Tryz.prog 118 := ⟨Tryz.isAgg118, Tryz.sizeOf118⟩
instance : ZrTy Tryz.prog 118 .nilFunc := ⟨Tryz.zeroValue118⟩
instance : ScTy Tryz.prog 119 := ⟨Tryz.isAgg119, Tryz.sizeOf119⟩
instance : ZrTy Tryz.prog 119 .nilFunc := ⟨Tryz.zeroValue119⟩
instance : ScTy Tryz.prog 120 := ⟨Tryz.isAgg120, Tryz.sizeOf120⟩
instance : ZrTy Tryz.prog 120 .nilFunc := ⟨Tryz.zeroValue120⟩
instance : ScTy Tryz.prog 123 := ⟨Tryz.isAgg123, Tryz.sizeOf123⟩
instance : ZrTy Tryz.prog 123 (.slice none 0 0) := ⟨Tryz.zeroValue123⟩
instance : SlTy Tryz.prog 123 125 (.slice none 0 0) 1 24 := ⟨Tryz.underlying123, by kernel_rfl, Tryz.sizeOf125, rfl, by decide, by decide⟩
instance : ScTy Tryz.prog 125 := ⟨Tryz.isAgg125, Tryz.sizeOf125⟩
instance : ZrTy Tryz.prog 125 (.slice none 0 0) := ⟨Tryz.zeroValue125⟩
instance : SlTy Tryz.prog 125 127 (.agg #[(.int .i64 0), (.int .i64 0)]) 2 16 := ⟨Tryz.underlying125, by kernel_rfl, Tryz.sizeOf127, rfl, by decide, by decide⟩
instance : BdTy Tryz.prog 126 (.agg #[(.int .i64 0), (.int .i64 0)]) [(0, 1), (1, 1)] := ⟨Tryz.zeroValue126, _, Tryz.underlying126, fun w => by simp only [List.mapM_cons, List.mapM_nil, Sem.run_bind, Sem.run_pure, Result.andThen_ok, Tryz.sizeOf3]⟩
instance : FdTy Tryz.prog 126 0 0 0 false := ⟨_, _, Tryz.underlying126, rfl, rfl, Tryz.sizeOf3, Tryz.isAgg3⟩
instance : FdTy Tryz.prog 126 1 1 0 false := ⟨_, _, Tryz.underlying126, rfl, rfl, Tryz.sizeOf3, Tryz.isAgg3⟩
instance : AgTy Tryz.prog 126 2 := ⟨Tryz.isAgg126, Tryz.sizeOf126⟩
instance : ZrTy Tryz.prog 126 (.agg #[(.int .i64 0), (.int .i64 0)]) := ⟨Tryz.zeroValue126⟩
instance : BdTy Tryz.prog 127 (.agg #[(.int .i64 0), (.int .i64 0)]) [(0, 1), (1, 1)] := ⟨Tryz.zeroValue127, _, Tryz.underlying127, fun w => by simp only [List.mapM_cons, List.mapM_nil, Sem.run_bind, Sem.run_pure, Result.andThen_ok, Tryz.sizeOf3]⟩
instance : FdTy Tryz.prog 127 0 0 0 false := ⟨_, _, Tryz.underlying127, rfl, rfl, Tryz.sizeOf3, Tryz.isAgg3⟩
instance : FdTy Tryz.prog 127 1 1 0 false := ⟨_, _, Tryz.underlying127, rfl, rfl, Tryz.sizeOf3, Tryz.isAgg3⟩
instance : AgTy Tryz.prog 127 2 := ⟨Tryz.isAgg127, Tryz.sizeOf127⟩
instance : ZrTy Tryz.prog 127 (.agg #[(.int .i64 0), (.int .i64 0)]) := ⟨Tryz.zeroValue127⟩
instance : ScTy Tryz.prog 129 := ⟨Tryz.isAgg129, Tryz.sizeOf129⟩
instance : ZrTy Tryz.prog 129 .nilFunc := ⟨Tryz.zeroValue129⟩
instance : ScTy Tryz.prog 130 := ⟨Tryz.isAgg130, Tryz.sizeOf130⟩
instance : ZrTy Tryz.prog 130 .nilFunc := ⟨Tryz.zeroValue130⟩
instance : ScTy Tryz.prog 131 := ⟨Tryz.isAgg131, Tryz.sizeOf131⟩
instance : ZrTy Tryz.prog 131 .nilFunc := ⟨Tryz.zeroValue131⟩
instance : ScTy Tryz.prog 133 := ⟨Tryz.isAgg133, Tryz.sizeOf133⟩
instance : ZrTy Tryz.prog 133 (.pointer none) := ⟨Tryz.zeroValue133⟩
instance : ScTy Tryz.prog 134 := ⟨Tryz.isAgg134, Tryz.sizeOf134⟩
instance : ZrTy Tryz.prog 134 (.slice none 0 0) := ⟨Tryz.zeroValue134⟩
instance : SlTy Tryz.prog 134 177 (.agg #[(.slice none 0 0), (.slice none 0 0)]) 2 48 := ⟨Tryz.underlying134, by kernel_rfl, Tryz.sizeOf177, rfl, by decide, by decide⟩
instance : ScTy Tryz.prog 135 := ⟨Tryz.isAgg135, Tryz.sizeOf135⟩
instance : ZrTy Tryz.prog 135 (.slice none 0 0) := ⟨Tryz.zeroValue135⟩
instance : SlTy Tryz.prog 135 89 .nilFunc 1 8 := ⟨Tryz.underlying135, by kernel_rfl, Tryz.sizeOf89, rfl, by decide, by decide⟩
instance : BdTy Tryz.prog 137 (.agg #[(.slice none 0 0), (.slice none 0 0), (.slice none 0 0)]) [(0, 1), (1, 1), (2, 1)] := ⟨Tryz.zeroValue137, _, Tryz.underlying137, fun w => by simp only [List.mapM_cons, List.mapM_nil, Sem.run_bind, Sem.run_pure, Result.andThen_ok, Tryz.sizeOf25, Tryz.sizeOf134, Tryz.sizeOf135]⟩
instance : FdTy Tryz.prog 137 0 0 0 false := ⟨_, _, Tryz.underlying137, rfl, rfl, Tryz.sizeOf25, Tryz.isAgg25⟩
instance : FdTy Tryz.prog 137 1 1 0 false := ⟨_, _, Tryz.underlying137, rfl, rfl, Tryz.sizeOf134, Tryz.isAgg134⟩
instance : FdTy Tryz.prog 137 2 2 0 false := ⟨_, _, Tryz.underlying137, rfl, rfl, Tryz.sizeOf135, Tryz.isAgg135⟩
instance : AgTy Tryz.prog 137 3 := ⟨Tryz.isAgg137, Tryz.sizeOf137⟩
instance : ZrTy Tryz.prog 137 (.agg #[(.slice none 0 0), (.slice none 0 0), (.slice none 0 0)]) := ⟨Tryz.zeroValue137⟩
instance : ScTy Tryz.prog 138 := ⟨Tryz.isAgg138, Tryz.sizeOf138⟩
instance : ZrTy Tryz.prog 138 (.slice none 0 0) := ⟨Tryz.zeroValue138⟩
instance : SlTy Tryz.prog 138 142 (.agg #[(.int .i64 0), (.slice none 0 0)]) 2 32 := ⟨Tryz.underlying138, by kernel_rfl, Tryz.sizeOf142, rfl, by decide, by decide⟩
instance : ScTy Tryz.prog 140 := ⟨Tryz.isAgg140, Tryz.sizeOf140⟩
instance : ZrTy Tryz.prog 140 .nilFunc := ⟨Tryz.zeroValue140⟩
instance : BdTy Tryz.prog 141 (.agg #[(.int .i64 0), (.slice none 0 0)]) [(0, 1), (1, 1)] := ⟨Tryz.zeroValue141, _, Tryz.underlying141, fun w => by simp only [List.mapM_cons, List.mapM_nil, Sem.run_bind, Sem.run_pure, Result.andThen_ok, Tryz.sizeOf3, Tryz.sizeOf28]⟩
instance : FdTy Tryz.prog 141 0 0 0 false := ⟨_, _, Tryz.underlying141, rfl, rfl, Tryz.sizeOf3, Tryz.isAgg3⟩
instance : FdTy Tryz.prog 141 1 1 0 false := ⟨_, _, Tryz.underlying141, rfl, rfl, Tryz.sizeOf28, Tryz.isAgg28⟩
instance : AgTy Tryz.prog 141 2 := ⟨Tryz.isAgg141, Tryz.sizeOf141⟩
instance : ZrTy Tryz.prog 141 (.agg #[(.int .i64 0), (.slice none 0 0)]) := ⟨Tryz.zeroValue141⟩
instance : BdTy Tryz.prog 142 (.agg #[(.int .i64 0), (.slice none 0 0)]) [(0, 1), (1, 1)] := ⟨Tryz.zeroValue142, _, Tryz.underlying142, fun w => by simp only [List.mapM_cons, List.mapM_nil, Sem.run_bind, Sem.run_pure, Result.andThen_ok, Tryz.sizeOf3, Tryz.sizeOf28]⟩
instance : FdTy Tryz.prog 142 0 0 0 false := ⟨_, _, Tryz.underlying142, rfl, rfl, Tryz.sizeOf3, Tryz.isAgg3⟩
instance : FdTy Tryz.prog 142 1 1 0 false := ⟨_, _, Tryz.underlying142, rfl, rfl, Tryz.sizeOf28, Tryz.isAgg28⟩
instance : AgTy Tryz.prog 142 2 := ⟨Tryz.isAgg142, Tryz.sizeOf142⟩
instance : ZrTy Tryz.prog 142 (.agg #[(.int .i64 0), (.slice none 0 0)]) := ⟨Tryz.zeroValue142⟩
instance : ScTy Tryz.prog 143 := ⟨Tryz.isAgg143, Tryz.sizeOf143⟩
instance : ZrTy Tryz.prog 143 .nilFunc := ⟨Tryz.zeroValue143⟩
instance : ScTy Tryz.prog 147 := ⟨Tryz.isAgg147, Tryz.sizeOf147⟩
instance : ZrTy Tryz.prog 147 .nilFunc := ⟨Tryz.zeroValue147⟩
instance : ScTy Tryz.prog 148 := ⟨Tryz.isAgg148, Tryz.sizeOf148⟩
instance : ZrTy Tryz.prog 148 (.int .i64 0) := ⟨Tryz.zeroValue148⟩
instance : ScTy Tryz.prog 150 := ⟨Tryz.isAgg150, Tryz.sizeOf150⟩
instance : ZrTy Tryz.prog 150 .nilFunc := ⟨Tryz.zeroValue150⟩
instance : ScTy Tryz.prog 152 := ⟨Tryz.isAgg152, Tryz.sizeOf152⟩
instance : ZrTy Tryz.prog 152 .nilFunc := ⟨Tryz.zeroValue152⟩
instance : ScTy Tryz.prog 156 := ⟨Tryz.isAgg156, Tryz.sizeOf156⟩
instance : ZrTy Tryz.prog 156 (.int .u32 0) := ⟨Tryz.zeroValue156⟩
instance : ScTy Tryz.prog 158 := ⟨Tryz.isAgg158, Tryz.sizeOf158⟩
instance : ZrTy Tryz.prog 158 (.int .u64 0) := ⟨Tryz.zeroValue158⟩
instance : ScTy Tryz.prog 163 := ⟨Tryz.isAgg163, Tryz.sizeOf163⟩
instance : ZrTy Tryz.prog 163 (.map none) := ⟨Tryz.zeroValue163⟩
instance : MpTy Tryz.prog 163 100 100 := ⟨Tryz.underlying163⟩
instance : ScTy Tryz.prog 165 := ⟨Tryz.isAgg165, Tryz.sizeOf165⟩
instance : ZrTy Tryz.prog 165 .nilFunc := ⟨Tryz.zeroValue165⟩
instance : ScTy Tryz.prog 166 := ⟨Tryz.isAgg166, Tryz.sizeOf166⟩
instance : ZrTy Tryz.prog 166 .nilFunc := ⟨Tryz.zeroValue166⟩
instance : ScTy Tryz.prog 167 := ⟨Tryz.isAgg167, Tryz.sizeOf167⟩
instance : ZrTy Tryz.prog 167 (.map none) := ⟨Tryz.zeroValue167⟩
instance : MpTy Tryz.prog 167 100 4 := ⟨Tryz.underlying167⟩
instance : ScTy Tryz.prog 168 := ⟨Tryz.isAgg168, Tryz.sizeOf168⟩
instance : ZrTy Tryz.prog 168 .nilFunc := ⟨Tryz.zeroValue168⟩
instance : ScTy Tryz.prog 169 := ⟨Tryz.isAgg169, Tryz.sizeOf169⟩
instance : ZrTy Tryz.prog 169 .nilFunc := ⟨Tryz.zeroValue169⟩
instance : ScTy Tryz.prog 171 := ⟨Tryz.isAgg171, Tryz.sizeOf171⟩
instance : ZrTy Tryz.prog 171 .nilFunc := ⟨Tryz.zeroValue171⟩
instance : ScTy Tryz.prog 173 := ⟨Tryz.isAgg173, Tryz.sizeOf173⟩
instance : ZrTy Tryz.prog 173 (.slice none 0 0) := ⟨Tryz.zeroValue173⟩
instance : SlTy Tryz.prog 173 62 (.map none) 1 8 := ⟨Tryz.underlying173, by kernel_rfl, Tryz.sizeOf62, rfl, by decide, by decide⟩
instance : ScTy Tryz.prog 174 := ⟨Tryz.isAgg174, Tryz.sizeOf174⟩
instance : ZrTy Tryz.prog 174 .nilFunc := ⟨Tryz.zeroValue174⟩
instance : BdTy Tryz.prog 177 (.agg #[(.slice none 0 0), (.slice none 0 0)]) [(0, 1), (1, 1)] := ⟨Tryz.zeroValue177, _, Tryz.underlying177, fun w => by simp only [List.mapM_cons, List.mapM_nil, Sem.run_bind, Sem.run_pure, Result.andThen_ok, Tryz.sizeOf28]⟩
instance : FdTy Tryz.prog 177 0 0 0 false := ⟨_, _, Tryz.underlying177, rfl, rfl, Tryz.sizeOf28, Tryz.isAgg28⟩
instance : FdTy Tryz.prog 177 1 1 0 false := ⟨_, _, Tryz.underlying177, rfl, rfl, Tryz.sizeOf28, Tryz.isAgg28⟩
instance : AgTy Tryz.prog 177 2 := ⟨Tryz.isAgg177, Tryz.sizeOf177⟩
instance : ZrTy Tryz.prog 177 (.agg #[(.slice none 0 0), (.slice none 0 0)]) := ⟨Tryz.zeroValue177⟩
instance : ScTy Tryz.prog 178 := ⟨Tryz.isAgg178, Tryz.sizeOf178⟩
instance : ZrTy Tryz.prog 178 .nilFunc := ⟨Tryz.zeroValue178⟩
instance : ScTy Tryz.prog 179 := ⟨Tryz.isAgg179, Tryz.sizeOf179⟩
instance : ZrTy Tryz.prog 179 .nilFunc := ⟨Tryz.zeroValue179⟩
instance : ScTy Tryz.prog 180 := ⟨Tryz.isAgg180, Tryz.sizeOf180⟩
instance : ZrTy Tryz.prog 180 .nilFunc := ⟨Tryz.zeroValue180⟩
instance : ScTy Tryz.prog 186 := ⟨Tryz.isAgg186, Tryz.sizeOf186⟩
instance : ZrTy Tryz.prog 186 .nilFunc := ⟨Tryz.zeroValue186⟩
instance : ScTy Tryz.prog 187 := ⟨Tryz.isAgg187, Tryz.sizeOf187⟩
instance : ZrTy Tryz.prog 187 (.int .u64 0) := ⟨Tryz.zeroValue187⟩
instance : ScTy Tryz.prog 190 := ⟨Tryz.isAgg190, Tryz.sizeOf190⟩
instance : ZrTy Tryz.prog 190 .nilFunc := ⟨Tryz.zeroValue190⟩
instance : ScTy Tryz.prog 191 := ⟨Tryz.isAgg191, Tryz.sizeOf191⟩
instance : ZrTy Tryz.prog 191 (.pointer none) := ⟨Tryz.zeroValue191⟩
instance : ScTy Tryz.prog 192 := ⟨Tryz.isAgg192, Tryz.sizeOf192⟩
instance : ZrTy Tryz.prog 192 .nilFunc := ⟨Tryz.zeroValue192⟩
instance : ScTy Tryz.prog 193 := ⟨Tryz.isAgg193, Tryz.sizeOf193⟩
instance : ZrTy Tryz.prog 193 .nilFunc := ⟨Tryz.zeroValue193⟩
instance : ScTy Tryz.prog 194 := ⟨Tryz.isAgg194, Tryz.sizeOf194⟩
instance : ZrTy Tryz.prog 194 .nilFunc := ⟨Tryz.zeroValue194⟩
instance : ScTy Tryz.prog 196 := ⟨Tryz.isAgg196, Tryz.sizeOf196⟩
instance : ZrTy Tryz.prog 196 .nilFunc := ⟨Tryz.zeroValue196⟩
instance : ScTy Tryz.prog 197 := ⟨Tryz.isAgg197, Tryz.sizeOf197⟩
instance : ZrTy Tryz.prog 197 (.pointer none) := ⟨Tryz.zeroValue197⟩
instance : ZrTy Tryz.prog 213 (.agg #[]) := ⟨Tryz.zeroValue213⟩
instance : FnTy Tryz.prog 3 := ⟨Tryz.call3⟩
instance : FnTy Tryz.prog 4 := ⟨Tryz.call4⟩
instance : FnTy Tryz.prog 10 := ⟨Tryz.call10⟩
instance : FnTy Tryz.prog 11 := ⟨Tryz.call11⟩
instance : FnTy Tryz.prog 12 := ⟨Tryz.call12⟩
instance : FnTy Tryz.prog 13 := ⟨Tryz.call13⟩
instance : FnTy Tryz.prog 14 := ⟨Tryz.call14⟩
instance : FnTy Tryz.prog 15 := ⟨Tryz.call15⟩
instance : FnTy Tryz.prog 16 := ⟨Tryz.call16⟩
instance : FnTy Tryz.prog 17 := ⟨Tryz.call17⟩
instance : FnTy Tryz.prog 18 := ⟨Tryz.call18⟩
instance : FnTy Tryz.prog 22 := ⟨Tryz.call22⟩
instance : FnTy Tryz.prog 25 := ⟨Tryz.call25⟩
instance : FnTy Tryz.prog 28 := ⟨Tryz.call28⟩
instance : FnTy Tryz.prog 29 := ⟨Tryz.call29⟩
instance : FnTy Tryz.prog 30 := ⟨Tryz.call30⟩
instance : FnTy Tryz.prog 31 := ⟨Tryz.call31⟩
instance : FnTy Tryz.prog 32 := ⟨Tryz.call32⟩
instance : FnTy Tryz.prog 33 := ⟨Tryz.call33⟩
instance : FnTy Tryz.prog 34 := ⟨Tryz.call34⟩
instance : FnTy Tryz.prog 35 := ⟨Tryz.call35⟩
instance : FnTy Tryz.prog 36 := ⟨Tryz.call36⟩
instance : FnTy Tryz.prog 37 := ⟨Tryz.call37⟩
instance : FnTy Tryz.prog 38 := ⟨Tryz.call38⟩
instance : FnTy Tryz.prog 39 := ⟨Tryz.call39⟩
instance : FnTy Tryz.prog 40 := ⟨Tryz.call40⟩
instance : FnTy Tryz.prog 41 := ⟨Tryz.call41⟩
instance : FnTy Tryz.prog 42 := ⟨Tryz.call42⟩
instance : FnTy Tryz.prog 44 := ⟨Tryz.call44⟩
instance : FnTy Tryz.prog 46 := ⟨Tryz.call46⟩
instance : FnTy Tryz.prog 47 := ⟨Tryz.call47⟩
instance : FnTy Tryz.prog 51 := ⟨Tryz.call51⟩
instance : FnTy Tryz.prog 52 := ⟨Tryz.call52⟩
instance : FnTy Tryz.prog 53 := ⟨Tryz.call53⟩
instance : FnTy Tryz.prog 54 := ⟨Tryz.call54⟩
instance : FnTy Tryz.prog 55 := ⟨Tryz.call55⟩
instance : FnTy Tryz.prog 56 := ⟨Tryz.call56⟩
instance : FnTy Tryz.prog 57 := ⟨Tryz.call57⟩
instance : FnTy Tryz.prog 58 := ⟨Tryz.call58⟩
instance : FnTy Tryz.prog 59 := ⟨Tryz.call59⟩
instance : FnTy Tryz.prog 60 := ⟨Tryz.call60⟩
instance : FnTy Tryz.prog 61 := ⟨Tryz.call61⟩
instance : FnTy Tryz.prog 62 := ⟨Tryz.call62⟩
instance : FnTy Tryz.prog 63 := ⟨Tryz.call63⟩
instance : FnTy Tryz.prog 64 := ⟨Tryz.call64⟩
instance : FnTy Tryz.prog 65 := ⟨Tryz.call65⟩
instance : FnTy Tryz.prog 66 := ⟨Tryz.call66⟩
instance : FnTy Tryz.prog 67 := ⟨Tryz.call67⟩
instance : FnTy Tryz.prog 68 := ⟨Tryz.call68⟩
instance : FnTy Tryz.prog 69 := ⟨Tryz.call69⟩
instance : FnTy Tryz.prog 70 := ⟨Tryz.call70⟩
instance : FnTy Tryz.prog 71 := ⟨Tryz.call71⟩
instance : FnTy Tryz.prog 72 := ⟨Tryz.call72⟩
instance : FnTy Tryz.prog 73 := ⟨Tryz.call73⟩
instance : FnTy Tryz.prog 74 := ⟨Tryz.call74⟩
instance : FnTy Tryz.prog 75 := ⟨Tryz.call75⟩
instance : FnTy Tryz.prog 76 := ⟨Tryz.call76⟩
instance : FnTy Tryz.prog 77 := ⟨Tryz.call77⟩
instance : FnTy Tryz.prog 78 := ⟨Tryz.call78⟩
instance : FnTy Tryz.prog 80 := ⟨Tryz.call80⟩
instance : FnTy Tryz.prog 81 := ⟨Tryz.call81⟩
instance : FnTy Tryz.prog 83 := ⟨Tryz.call83⟩
instance : FnTy Tryz.prog 84 := ⟨Tryz.call84⟩
instance : FnTy Tryz.prog 85 := ⟨Tryz.call85⟩
instance : FnTy Tryz.prog 86 := ⟨Tryz.call86⟩
instance : FnTy Tryz.prog 87 := ⟨Tryz.call87⟩
instance : FnTy Tryz.prog 88 := ⟨Tryz.call88⟩
instance : FnTy Tryz.prog 89 := ⟨Tryz.call89⟩
instance : FnTy Tryz.prog 90 := ⟨Tryz.call90⟩
instance : FnTy Tryz.prog 91 := ⟨Tryz.call91⟩
instance : FnTy Tryz.prog 92 := ⟨Tryz.call92⟩
instance : FnTy Tryz.prog 93 := ⟨Tryz.call93⟩
instance : FnTy Tryz.prog 94 := ⟨Tryz.call94⟩
instance : FnTy Tryz.prog 95 := ⟨Tryz.call95⟩
instance : FnTy Tryz.prog 96 := ⟨Tryz.call96⟩
instance : FnTy Tryz.prog 97 := ⟨Tryz.call97⟩
instance : FnTy Tryz.prog 98 := ⟨Tryz.call98⟩
instance : FnTy Tryz.prog 99 := ⟨Tryz.call99⟩
instance : FnTy Tryz.prog 100 := ⟨Tryz.call100⟩
instance : FnTy Tryz.prog 101 := ⟨Tryz.call101⟩
instance : FnTy Tryz.prog 102 := ⟨Tryz.call102⟩
instance : FnTy Tryz.prog 104 := ⟨Tryz.call104⟩
instance : FnTy Tryz.prog 105 := ⟨Tryz.call105⟩
instance : FnTy Tryz.prog 106 := ⟨Tryz.call106⟩
instance : FnTy Tryz.prog 107 := ⟨Tryz.call107⟩
instance : FnTy Tryz.prog 108 := ⟨Tryz.call108⟩
instance : FnTy Tryz.prog 109 := ⟨Tryz.call109⟩
instance : FnTy Tryz.prog 110 := ⟨Tryz.call110⟩
instance : FnTy Tryz.prog 111 := ⟨Tryz.call111⟩
instance : FnTy Tryz.prog 112 := ⟨Tryz.call112⟩
instance : FnTy Tryz.prog 113 := ⟨Tryz.call113⟩
instance : FnTy Tryz.prog 114 := ⟨Tryz.call114⟩
instance : FnTy Tryz.prog 115 := ⟨Tryz.call115⟩
instance : FnTy Tryz.prog 116 := ⟨Tryz.call116⟩
instance : FnTy Tryz.prog 117 := ⟨Tryz.call117⟩
instance : FnTy Tryz.prog 118 := ⟨Tryz.call118⟩
instance : FnTy Tryz.prog 119 := ⟨Tryz.call119⟩
instance : FnTy Tryz.prog 120 := ⟨Tryz.call120⟩
instance : FnTy Tryz.prog 121 := ⟨Tryz.call121⟩
instance : FnTy Tryz.prog 122 := ⟨Tryz.call122⟩
instance : FnTy Tryz.prog 123 := ⟨Tryz.call123⟩
instance : FnTy Tryz.prog 124 := ⟨Tryz.call124⟩
instance : FnTy Tryz.prog 125 := ⟨Tryz.call125⟩
instance : FnTy Tryz.prog 126 := ⟨Tryz.call126⟩
instance : FnTy Tryz.prog 127 := ⟨Tryz.call127⟩
instance : FnTy Tryz.prog 128 := ⟨Tryz.call128⟩
instance : FnTy Tryz.prog 129 := ⟨Tryz.call129⟩
instance : FnTy Tryz.prog 130 := ⟨Tryz.call130⟩
instance : FnTy Tryz.prog 131 := ⟨Tryz.call131⟩
instance : FnTy Tryz.prog 132 := ⟨Tryz.call132⟩
instance : FnTy Tryz.prog 133 := ⟨Tryz.call133⟩
instance : FnTy Tryz.prog 134 := ⟨Tryz.call134⟩
instance : FnTy Tryz.prog 135 := ⟨Tryz.call135⟩
instance : FnTy Tryz.prog 136 := ⟨Tryz.call136⟩
instance : FnTy Tryz.prog 137 := ⟨Tryz.call137⟩
instance : FnTy Tryz.prog 138 := ⟨Tryz.call138⟩
instance : FnTy Tryz.prog 139 := ⟨Tryz.call139⟩
instance : FnTy Tryz.prog 141 := ⟨Tryz.call141⟩
instance : FnTy Tryz.prog 142 := ⟨Tryz.call142⟩
instance : FnTy Tryz.prog 143 := ⟨Tryz.call143⟩
instance : FnTy Tryz.prog 144 := ⟨Tryz.call144⟩
instance : FnTy Tryz.prog 145 := ⟨Tryz.call145⟩
instance : FnTy Tryz.prog 146 := ⟨Tryz.call146⟩
instance : FnTy Tryz.prog 147 := ⟨Tryz.call147⟩
instance : FnTy Tryz.prog 148 := ⟨Tryz.call148⟩
instance : FnTy Tryz.prog 149 := ⟨Tryz.call149⟩
instance : FnTy Tryz.prog 150 := ⟨Tryz.call150⟩
instance : FnTy Tryz.prog 151 := ⟨Tryz.call151⟩
instance : FnTy Tryz.prog 152 := ⟨Tryz.call152⟩
instance : FnTy Tryz.prog 153 := ⟨Tryz.call153⟩
instance : FnTy Tryz.prog 154 := ⟨Tryz.call154⟩
instance : FnTy Tryz.prog 155 := ⟨Tryz.call155⟩
instance : FnTy Tryz.prog 156 := ⟨Tryz.call156⟩
instance : FnTy Tryz.prog 157 := ⟨Tryz.call157⟩
instance : FnTy Tryz.prog 158 := ⟨Tryz.call158⟩
instance : FnTy Tryz.prog 159 := ⟨Tryz.call159⟩
instance : FnTy Tryz.prog 160 := ⟨Tryz.call160⟩
instance : FnTy Tryz.prog 161 := ⟨Tryz.call161⟩
instance : FnTy Tryz.prog 162 := ⟨Tryz.call162⟩
instance : FnTy Tryz.prog 163 := ⟨Tryz.call163⟩
instance : FnTy Tryz.prog 164 := ⟨Tryz.call164⟩
instance : FnTy Tryz.prog 165 := ⟨Tryz.call165⟩
instance : FnTy Tryz.prog 166 := ⟨Tryz.call166⟩
instance : FnTy Tryz.prog 167 := ⟨Tryz.call167⟩
instance : FnTy Tryz.prog 168 := ⟨Tryz.call168⟩
instance : FnTy Tryz.prog 169 := ⟨Tryz.call169⟩
end Go.Proofs.YtpajjnkmaebhcabGreat
end
section
set_option linter.unusedVariables false
set_option linter.unusedSimpArgs false
namespace Go.Sl
open Go Go.RowKit
section
variable {P : Program} {w0 : World} {S0 : FS} {n : Nat} {F : List (Nat × Value)} {L Lk : List HP} {o : Oper} {x y : Operand} {t e : TypeId} {a b : Int} {ops : Array Oper} {Q : Exit → Act → World → Prop} {d i : Nat} {ty : TypeId} {ps : String} {af : Array Edge} {plan : List PI}
end
end Go.Sl
end
section
set_option linter.unusedVariables false
set_option linter.unusedSimpArgs false
namespace Go.Sl
open Go Go.RowKit
/-- a struct of two integers -/
class E2Ty (P : Program) (t : TypeId) : Prop where
  g : P.eqGuardType P.depth t = false
  e : ∀ (a b c d : Int) w, (Op.equalIn 10000 t (.agg #[.int .i64 a, .int .i64 b]) (.agg #[.int .i64 c, .int .i64 d])).run P w = .ok (decide (a = c ∧ b = d)) w
section
variable {P : Program} {w0 : World} {S0 : FS} {n : Nat} {F : List (Nat × Value)} {L Lk : List HP} {o : Oper} {x y : Operand} {t t' : TypeId} {a b c e : Int} {rest : List Oper} {ops : Array Oper} {Q : Exit → Act → World → Prop} {d i : Nat} {ty : TypeId} {ps : String} {af : Array Edge} {plan : List PI}
theorem q_eql2 [T : E2Ty P t] (ho : o.op = .binOp .eql t x y t') (hx : ev F x = some (.agg #[.int .i64 a, .int .i64 b])) (hy : ev F y = some (.agg #[.int .i64 c, .int .i64 e])) : R1 P w0 S0 n F L o (.bool (decide (a = c ∧ b = e))) :=
  q_of_pure fun s hf w => by
    simp only [execOp, ho, hf.eval hx, hf.eval hy, Sem.run_bind, Result.andThen_ok, run_eqGuard_agg w _ _ _ _ _ _ T.g, run_eql_struct, T.e]
    rfl
theorem s_eql2 [T : E2Ty P t] (hn : Nat.blt d n = true) (hx : ev F x = some (.agg #[.int .i64 a, .int .i64 b])) (hy : ev F y = some (.agg #[.int .i64 c, .int .i64 e])) (h : Reach w0 S0 n ((d, .bool (decide (a = c ∧ b = e))) :: F) L (wpList P ops Q rest)) : Reach w0 S0 n F L (wpList P ops Q (⟨some d, .binOp .eql t x y t', ty, ps, af, none⟩ :: rest)) := s_q rfl rfl hn (q_eql2 rfl hx hy).q h
theorem t_eql2 [T : E2Ty P t] (hn : Nat.blt d n = true) (hx : ev F x = some (.agg #[.int .i64 a, .int .i64 b])) (hy : ev F y = some (.agg #[.int .i64 c, .int .i64 e])) (hkeep : ∀ w, St w0 S0 L w → St w0 S0 Lk w) (h : RP P w0 S0 n ops Q Lk plan ((d, .bool (decide (a = c ∧ b = e))) :: F) L) : RPo P w0 S0 n ops Q Lk ⟨some d, .binOp .eql t x y t', ty, ps, af, none⟩ i true plan F L := fun ho => p_q ho rfl rfl hn hkeep (q_eql2 rfl hx hy) h
end
open Go.Proofs
instance : E2Ty Tryz.prog 100 where
  g := by kernel_rfl
  e a b c d w := by
    rw [run_equalIn_agg w 9999 _ _ _ (by kernel_rfl) (by kernel_rfl)]
    simp [Program.fieldsOf, Tryz.underlying100, Op.eqFields, part]
    rw [run_equalIn_int w 9998 3 .i64 .i64 a c Tryz.underlying3, Result.andThen_ok]
    by_cases h1 : a = c
    · rw [if_neg (by simp [h1]), run_equalIn_int w 9998 3 .i64 .i64 b d Tryz.underlying3, Result.andThen_ok]
      by_cases h2 : b = d <;> simp [h1, h2]
    · rw [if_pos (by simp [h1])]
      simp [h1]
end Go.Sl
end
section
set_option linter.unusedVariables false
set_option linter.unusedSimpArgs false
namespace Go.Sl
open Go Go.RowKit
/-- a struct of two integers and a third one -/
class E3Ty (P : Program) (t : TypeId) : Prop where
  g : P.eqGuardType P.depth t = false
  e : ∀ (a b c d e f : Int) w, (Op.equalIn 10000 t (.agg #[.int .i64 a, .int .i64 b, .int .i64 c]) (.agg #[.int .i64 d, .int .i64 e, .int .i64 f])).run P w = .ok (decide (a = d ∧ b = e ∧ c = f)) w
section
variable {P : Program} {w0 : World} {S0 : FS} {n : Nat} {F : List (Nat × Value)} {L Lk : List HP} {o : Oper} {x y : Operand} {t t' e : TypeId} {rest : List Oper} {ops : Array Oper} {Q : Exit → Act → World → Prop} {d i : Nat} {ty : TypeId} {ps : String} {af : Array Edge} {plan : List PI} {s : Value} {k m len : Nat}
end
open Go.Proofs
instance : E3Ty Tryz.prog 37 where
  g := by kernel_rfl
  e a b c d e f w := by
    rw [run_equalIn_agg w 9999 _ _ _ (by kernel_rfl) (by kernel_rfl)]
    simp [Program.fieldsOf, Tryz.underlying37, Op.eqFields, part]
    rw [run_equalIn_int w 9998 3 .i64 .i64 a d Tryz.underlying3, Result.andThen_ok]
    by_cases h1 : a = d
    · rw [if_neg (by simp [h1]), run_equalIn_int w 9998 3 .i64 .i64 b e Tryz.underlying3, Result.andThen_ok]
      by_cases h2 : b = e
      · rw [if_neg (by simp [h2]), run_equalIn_int w 9998 2 .i64 .i64 c f Tryz.underlying2, Result.andThen_ok]
        by_cases h3 : c = f <;> simp [h1, h2, h3]
      · rw [if_pos (by simp [h2])]
        simp [h1, h2]
    · rw [if_pos (by simp [h1])]
      simp [h1]
end Go.Sl
end
section
set_option linter.unusedVariables false
namespace Go.Sl
open Go Go.RowKit
section
variable {P : Program} {w0 : World} {S0 : FS} {n : Nat} {F : List (Nat × Value)} {L Lk : List HP} {rest : List Oper} {ops : Array Oper} {Q : Exit → Act → World → Prop} {Qa : Act → Prop} {d i : Nat} {v : Value} {ty : TypeId} {ps : String} {af : Array Edge} {plan : List PI}
theorem s_look {x y : Operand} {ka : Value} {t k : TypeId} {α β : Type} {ek : α → Value} {ev0 : β → Value} {ok : α → Prop} {z : β} {s : Value} {ks : List (α × β)} {a : α} {b : β} [DecidableEq α] [T : MapTy P t α β ek ev0 ok z k] (hn : Nat.blt d n = true) (hx : ev F x = some s) (hy : ev F y = some ka) (hL : mapHP ek ev0 ok s ks ∈ L) (hka : ka = ek a) (hv : (getK ks a).getD z = b) (ha : ok a) (h : Reach w0 S0 n ((d, ev0 b) :: F) L (wpList P ops Q rest)) : Reach w0 S0 n F L (wpList P ops Q (⟨some d, .lookup t x y false, ty, ps, af, none⟩ :: rest)) := s_q rfl rfl hn (q_look rfl hx hy hL hka hv ha).q h
theorem s_look_kid {x y : Operand} {ka : Value} {Ks : List HP} {t k : TypeId} {α β : Type} {ek : α → Value} {ev0 : β → Value} {ok : α → Prop} {z : β} {s : Value} {ks : List (α × β)} {a : α} {b : β} [DecidableEq α] [T : MapTy P t α β ek ev0 ok z k] (hn : Nat.blt d n = true) (hx : ev F x = some s) (hy : ev F y = some ka) (hK : mapHP? ek ev0 ok s (some ks) ∈ Ks) (hL : starHP Ks ∈ L) (hka : ka = ek a) (hv : (getK ks a).getD z = b) (ha : ok a) (h : Reach w0 S0 n ((d, ev0 b) :: F) L (wpList P ops Q rest)) : Reach w0 S0 n F L (wpList P ops Q (⟨some d, .lookup t x y false, ty, ps, af, none⟩ :: rest)) := s_q rfl rfl hn (q_look_kid rfl hx hy hK hL hka hv ha).q h
theorem s_lenm_kid {x : Operand} {Ks : List HP} {t k : TypeId} {α β : Type} {ek : α → Value} {ev0 : β → Value} {ok : α → Prop} {z : β} {s : Value} {ks : List (α × β)} [DecidableEq α] [T : MapTy P t α β ek ev0 ok z k] (hn : Nat.blt d n = true) (hx : ev F x = some s) (hK : mapHP? ek ev0 ok s (some ks) ∈ Ks) (hL : starHP Ks ∈ L) (h : Reach w0 S0 n ((d, .int .i64 (ks.length : Int)) :: F) L (wpList P ops Q rest)) : Reach w0 S0 n F L (wpList P ops Q (⟨some d, .call { callee := .builtin .len, args := #[x], argTypes := #[t] }, ty, ps, af, none⟩ :: rest)) := s_q rfl rfl hn (q_lenm_kid (z := z) (k := k) rfl hx hK hL).q h
theorem w_lenm_kid {x : Operand} {Ks : List HP} {t k : TypeId} {α β : Type} {ek : α → Value} {ev0 : β → Value} {ok : α → Prop} {z : β} {s : Value} {ks : List (α × β)} {gd : Nat × Bool} {u : Nat} {want : Bool} [DecidableEq α] [T : MapTy P t α β ek ev0 ok z k] (hg : gslot ops ⟨some d, .call { callee := .builtin .len, args := #[x], argTypes := #[t] }, ty, ps, af, some gd⟩ = some (u, want)) (ht : fget F u = some (.bool want)) (hn : Nat.blt d n = true) (hx : ev F x = some s) (hK : mapHP? ek ev0 ok s (some ks) ∈ Ks) (hL : starHP Ks ∈ L) (h : Reach w0 S0 n ((d, .int .i64 (ks.length : Int)) :: F) L (wpList P ops Q rest)) : Reach w0 S0 n F L (wpList P ops Q (⟨some d, .call { callee := .builtin .len, args := #[x], argTypes := #[t] }, ty, ps, af, some gd⟩ :: rest)) := s_want hg ht rfl hn (q_lenm_kid (z := z) (k := k) rfl hx hK hL).q h
theorem s_entry {x : Operand} {α β : Type} {ek : α → Value} {ev0 : β → Value} {ok : α → Prop} {s it : Value} {ks left : List (α × β)} {p0 : α × β} [DecidableEq α] (hn : Nat.blt d n = true) (hx : ev F x = some it) (hL : rangeHP ek ev0 ok s it ks left (some p0) ∈ L) (h : Reach w0 S0 n ((d, .tuple #[ek p0.1, ev0 p0.2]) :: F) L (wpList P ops Q rest)) : Reach w0 S0 n F L (wpList P ops Q (⟨some d, .entry x, ty, ps, af, none⟩ :: rest)) := s_q rfl rfl hn (q_entry rfl hx hL).q h
end
end Go.Sl
end
section
namespace Go.Sl
open Go Go.Proofs
instance : BoTy Tryz.prog 4 := ⟨Tryz.underlying4⟩
instance : MapTy Tryz.prog 62 Int Bool ekI Value.bool okI false 3 := mapTy_int Tryz.underlying62 Tryz.underlying3 (fun w => Tryz.zeroValue4 w)
end Go.Sl
end
section
namespace Go.Sl
open Go.RowKit
section
variable {P : Program} {w0 : World} {S0 : FS} {n : Nat} {F : List (Nat × Value)} {L Lk : List HP} {rest : List Oper} {ops : Array Oper} {Q : Exit → Act → World → Prop} {d i : Nat} {ty : TypeId} {ps : String} {af : Array Edge} {plan : List PI}
theorem mod_trans0 {w w1 w2 : World} {S1 S2 : FS} (h : Mod w No w1 S1) (h2 : Mod w1 No w2 S2) : Mod w No w2 (fun k => S1 k ∨ S2 k) :=
  h.trans ⟨h2.os, h2.tape, h2.output, h2.drawn, h2.size, fun k hk _ => h2.keep k hk (fun h => h), fun k hk => hk.imp id (fun h => (h2.new k h).elim (fun h => h.elim) id)⟩
theorem run_mkrow0 {t e : TypeId} {z : Value} {sz bytes : Nat} [T : SlTy P t e z sz bytes] (w : World) :
    (Instr.buildSlice t 0 #[]).run P w = .ok (.slice (some ⟨w.heap.size, 0, none⟩) 0 0) (w.alloc (.cells #[] e (0, 0))) := by
  simp only [Instr.buildSlice, Sem.run_bind, Sem.run_pure, run_under T.u, T.size, Result.andThen_ok]
  simp [Instr.fill, run_newRow]
  exact congrArg (fun c => w.alloc (Obj.cells c e (0, 0))) (Array.toList_inj.1 (by simp))
theorem p_mk0 {t e : TypeId} {z : Value} {sz bytes : Nat} [T : SlTy P t e z sz bytes] (ho : ops[i]? = some ⟨some d, .buildSlice t 0 #[], ty, ps, af, none⟩) (hn : Nat.blt d n = true) (hL : ∀ w (A : HP), St w0 S0 (A :: L) w → St w0 S0 Lk w)
    (h : ∀ v, Shp v 0 → RP P w0 S0 n ops Q Lk plan ((d, v) :: F) (rowHP v e sz 0 [] :: L)) : RP P w0 S0 n ops Q Lk (.mk i false :: plan) F L :=
  p_mkrow [] ho hn (fun a _ w => by simpa using run_mkrow0 (T := T) w) (by simp) (by simp only [maxLen]; omega) hL h
end
end Go.Sl
end
section
namespace Go.Sl
open Go.RowKit
/-- an integer type -/
class InTy (P : Program) (t : TypeId) (k : outParam IntKind) : Prop where
  u : P.underlying t = some (.int k)
section
variable {P : Program} {w0 : World} {S0 : FS} {n : Nat} {F : List (Nat × Value)} {L Lk : List HP} {rest : List Oper} {ops : Array Oper} {Q : Exit → Act → World → Prop} {d i : Nat} {v : Value} {plan : List PI} {ty : TypeId} {ps : String} {af : Array Edge}
variable {o : Oper} {x y : Operand} {t t' : TypeId} {a b r : Int} {k k' : IntKind}
theorem run_conv [T : InTy P t k] [T' : InTy P t' k'] (w : World) (h : k'.min ≤ a ∧ a ≤ k'.max) : (Go.convert t t' (.int k a)).run P w = .ok (.int k' a) w := by
  simp [Go.convert, run_underlying T.u, run_underlying T'.u, Conv.intToInt, wrap_id h]
theorem q_conv [T : InTy P t k] [T' : InTy P t' k'] (ho : o.op = .convert t t' x) (hx : ev F x = some (.int k a)) (h : k'.min ≤ a ∧ a ≤ k'.max) : R1 P w0 S0 n F L o (.int k' a) :=
  q_of_pure fun ac hf w => by simp [execOp, ho, hf.eval hx, run_conv w h]
theorem q_nilc {p : Addr} (ho : o.op = .nilCheck x) (hx : ev F x = some (.pointer (some p))) : R1 P w0 S0 n F L o (.pointer (some p)) :=
  q_of_pure fun ac hf w => by simp [execOp, ho, hf.eval hx]
theorem s_nilc {p : Addr} (hn : Nat.blt d n = true) (hx : ev F x = some (.pointer (some p))) (h : Reach w0 S0 n ((d, .pointer (some p)) :: F) L (wpList P ops Q rest)) : Reach w0 S0 n F L (wpList P ops Q (⟨some d, .nilCheck x, ty, ps, af, none⟩ :: rest)) := s_q rfl rfl hn (q_nilc rfl hx).q h
theorem s_conv [T : InTy P t k] [T' : InTy P t' k'] (hn : Nat.blt d n = true) (hx : ev F x = some (.int k a)) (hb : k'.min ≤ a ∧ a ≤ k'.max) (h : Reach w0 S0 n ((d, .int k' a) :: F) L (wpList P ops Q rest)) : Reach w0 S0 n F L (wpList P ops Q (⟨some d, .convert t t' x, ty, ps, af, none⟩ :: rest)) := s_q rfl rfl hn (q_conv rfl hx hb).q h
end
end Go.Sl
end
section
namespace Go.Sl
open Go Go.Proofs
instance : InTy Tryz.prog 3 .i64 := ⟨Tryz.underlying3⟩
instance : InTy Tryz.prog 111 .u64 := ⟨Tryz.underlying111⟩
end Go.Sl
end
section
namespace Fil
abbrev E := Int × Int × Int
def cmpK (a b : Int) : Int := if a < b then -1 else if b < a then 1 else 0
def orderK (a b : E) : Int := if cmpK a.1 b.1 = 0 then cmpK a.2.1 b.2.1 else cmpK a.1 b.1
def sizesK (n m : Int) : Int := if n < 0 then 1 else if 1048576 < n ∨ 4194304 < m then 4 else 0
def aloneK (n u v x : Int) : Int := if min u v < 0 ∨ n ≤ max u v then 5 else if u = v then 6 else if x ≤ -2147483648 ∨ 2147483648 ≤ x then 8 else 0
def belowB (a b : E) : Bool := decide (a.1 < b.1) || (decide (a.1 = b.1) && decide (a.2.1 < b.2.1))
/-- from edge k on -/
def scan (n : Int) : Option E → List E → Int
  | _, [] => 0
  | p, e :: r =>
    if aloneK n e.1 e.2.1 e.2.2 = 0 then
      if e.2.1 < e.1 then 1
      else match p with
        | none => scan n (some e) r
        | some q => if orderK q e = 0 then 7 else if orderK q e = 1 then 1 else scan n (some e) r
    else aloneK n e.1 e.2.1 e.2.2
def rightK (n : Int) (es : List E) : Int := if sizesK n es.length = 0 then scan n none es else sizesK n es.length
theorem scan_at {n : Int} {es : List E} {k : Nat} {e : E} (he : es[k]? = some e) (p : Option E) : scan n p (es.drop k) = (if aloneK n e.1 e.2.1 e.2.2 = 0 then
      if e.2.1 < e.1 then 1
      else match p with
        | none => scan n (some e) (es.drop (k + 1))
        | some q => if orderK q e = 0 then 7 else if orderK q e = 1 then 1 else scan n (some e) (es.drop (k + 1))
    else aloneK n e.1 e.2.1 e.2.2) := by
  obtain ⟨hlt, rfl⟩ := List.getElem?_eq_some_iff.1 he
  rw [List.drop_eq_getElem_cons hlt]
  cases p <;> rfl
theorem orderK_below (a b : E) : (belowB a b = true ↔ orderK a b = -1) ∧ (belowB b a = true ↔ orderK a b = 1) := by
  simp only [belowB, orderK, cmpK, Bool.or_eq_true, Bool.and_eq_true, decide_eq_true_eq]
  constructor <;> (repeat' split) <;> omega
theorem orderK_range (a b : E) : orderK a b = -1 ∨ orderK a b = 0 ∨ orderK a b = 1 := by
  simp only [orderK, cmpK]
  (repeat' split) <;> omega
end Fil
end
section
namespace Go.Proofs.YtpajjnkmaebhcabGreat
open Go.RowKit Go.Sl Fil
set_option maxRecDepth 100000
set_option maxHeartbeats 8000000
set_option linter.unusedVariables false
set_option linter.unusedSimpArgs false
attribute [local irreducible] Code.wp wpList bodyPost wpQuiet Exit.then Exit.inBlock Post wpAnyH wpOp
def eV (e : E) : List Value := [.int .i64 e.1, .int .i64 e.2.1, .int .i64 e.2.2]
def esV (es : List E) : List Value := es.flatMap eV
theorem esV_at {es : List E} {k : Nat} {e : E} (h : es[k]? = some e) : ((esV es).drop (k * 3)).take 3 = eV e := by
  induction es generalizing k with
  | nil => simp at h
  | cons x es ih =>
    cases k with
    | zero =>
      obtain rfl : x = e := by simpa using h
      rfl
    | succ k =>
      have := ih (k := k) (by simpa using h)
      rw [show (k + 1) * 3 = 3 + k * 3 from by omega]
      show (((eV x) ++ esV es).drop (3 + k * 3)).take 3 = eV e
      rw [← List.drop_drop, List.drop_append_of_le_length (by simp [eV])]
      simpa [eV] using this
theorem esV_length (es : List E) : (esV es).length = es.length * 3 := by
  induction es with
  | nil => rfl
  | cons x es ih => show ((eV x) ++ esV es).length = _; rw [List.length_append, ih]; simp [eV]; omega
theorem isNaN_ok (a : Int) (w : World) : Calls Tryz.prog 129 #[.int .i64 a] w (Post w No (Just (.bool false))) := by
  refine enter0 (vs := [_]) Tryz.func129 rfl Tryz.ntmps129 rfl ?_
  repeat' first
    | refine k_then ?_ | refine c_seq ?_ | refine c_region ?_ | refine s_nil ?_ | refine s_move (by exact rfl) (by exact rfl) ?_ | refine s_assign (by exact rfl) (by exact rfl) ?_ | refine s_neq (by exact rfl) (by exact rfl) (by exact rfl) ?_ | refine c_ret ?_
  refine ret1 [] rfl rfl rfl ⟨by simp, rfl⟩
theorem Compare_ok (a b : Int) (w : World) : Calls Tryz.prog 100 #[.int .i64 a, .int .i64 b] w (Post w No (Just (.int .i64 (cmpK a b)))) := by
  refine enter0 (vs := [_, _]) Tryz.func100 rfl Tryz.ntmps100 rfl ?_
  repeat' first
    | refine k_then ?_ | refine c_seq ?_ | refine c_region ?_ | refine s_nil ?_ | refine s_move (by exact rfl) (by exact rfl) ?_ | refine s_assign (by exact rfl) (by exact rfl) ?_
  refine s_call (by exact rfl) (by exact rfl) (fun w hs => isNaN_ok _ w) ?_
  repeat' first
    | refine k_then ?_ | refine c_seq ?_ | refine c_region ?_ | refine s_nil ?_ | refine s_move (by exact rfl) (by exact rfl) ?_ | refine s_assign (by exact rfl) (by exact rfl) ?_
  refine s_call (by exact rfl) (by exact rfl) (fun w hs => isNaN_ok _ w) ?_
  repeat' first
    | refine k_then ?_ | refine c_seq ?_ | refine c_region ?_ | refine s_nil ?_ | refine s_move (by exact rfl) (by exact rfl) ?_ | refine s_assign (by exact rfl) (by exact rfl) ?_ | refine s_lss (by exact rfl) (by exact rfl) (by exact rfl) ?_ | refine s_gtr (by exact rfl) (by exact rfl) (by exact rfl) ?_ | refine c_skip ?_ | refine c_ret ?_ | refine k_then_ret ?_ | (refine c_cond_p (by exact rfl) (fun h => ?_) (fun h => ?_) <;> try (exfalso; omega)) | refine c_cond_f (by exact rfl) ?_
  all_goals refine ret1 [] rfl rfl rfl ⟨?_, rfl⟩
  all_goals (refine congrArg (Value.int .i64) ?_; simp only [cmpK]; repeat' split)
  all_goals omega
theorem Or_ok (s : Value) (a b : Int) (w : World) (hr : RO w No s [.int .i64 a, .int .i64 b]) (hs : Shp s 2) : Calls Tryz.prog 99 #[s] w (Post w No (Just (.int .i64 (if a = 0 then b else a)))) := by
  refine enter0 (vs := [_]) Tryz.func99 rfl Tryz.ntmps99 rfl ?_
  repeat' first
    | refine k_then ?_ | refine c_seq ?_ | refine c_region ?_ | refine s_nil ?_ | refine s_move (by exact rfl) (by exact rfl) ?_ | refine s_assign (by exact rfl) (by exact rfl) ?_ | refine s_len (by exact rfl) (by exact rfl) (by assumption) ?_ | refine c_block ?_
  refine c_loop (fun k : Nat => k ≤ 2 ∧ (0 < k → a = 0) ∧ (1 < k → b = 0)) (fun k => [(0, s), (6, s), (7, .int .i64 2), (8, .int .i64 (k : Int)), (3, .int .i64 0)]) (fun _ => []) (fun k => 2 - k) 0 [] ⟨by omega, by omega, by omega⟩ rfl ⟨rfl, rfl, rfl, rfl, rfl, trivial⟩ ?_
  rintro k ⟨hk, ha, hb⟩
  by_cases hlt : k < 2
  · have hc : ([.int .i64 a, .int .i64 b] : List Value)[k * 1]? = some (.int .i64 (if k = 0 then a else b)) := by
      rcases Nat.lt_or_ge k 1 with h | h
      · obtain rfl : k = 0 := by omega
        rfl
      · obtain rfl : k = 1 := by omega
        rfl
    repeat' first
      | refine k_then ?_ | refine c_seq ?_ | refine c_region ?_ | refine s_nil ?_ | refine s_move (by exact rfl) (by exact rfl) ?_ | refine s_assign (by exact rfl) (by exact rfl) ?_ | refine s_lss (by exact rfl) (by exact rfl) (by exact rfl) ?_ | refine s_neq (by exact rfl) (by exact rfl) (by exact rfl) ?_ | refine s_add (by exact rfl) (by exact rfl) (by exact rfl) (by omega) ?_ | refine s_idx (by exact rfl) (by exact rfl) (by exact rfl) (by assumption) (by first | assumption | omega) ?_ | refine s_ld_ro (by exact rfl) (by exact rfl) (by assumption) (by assumption) ?_ | refine c_block ?_ | refine c_skip ?_ | refine c_ret ?_ | refine k_then_ret ?_ | refine k_blk ?_ | refine k_blk_ret ?_ | (refine c_cond_p (by exact rfl) (fun h => ?_) (fun h => ?_) <;> try (exfalso; omega))
    · refine ret1 [] rfl rfl rfl ⟨congrArg (Value.int .i64) ?_, rfl⟩
      rcases Nat.lt_or_ge k 1 with h' | h'
      · obtain rfl : k = 0 := by omega
        simp_all
      · obtain rfl : k = 1 := by omega
        simp_all
    · refine c_round (k + 1) [] (by exact rfl) (by exact ⟨rfl, rfl, rfl, rfl, rfl, trivial⟩) ⟨by omega, fun _ => ?_, fun _ => ?_⟩ (by omega)
      · rcases Nat.lt_or_ge k 1 with h' | h'
        · obtain rfl : k = 0 := by omega
          simp_all
        · exact ha (by omega)
      · obtain rfl : k = 1 := by omega
        simp_all
  · repeat' first
      | refine k_then ?_ | refine c_seq ?_ | refine c_region ?_ | refine s_nil ?_ | refine s_move (by exact rfl) (by exact rfl) ?_ | refine s_assign (by exact rfl) (by exact rfl) ?_ | refine s_lss (by exact rfl) (by exact rfl) (by exact rfl) ?_ | refine c_exit ?_ | refine c_ret ?_ | refine k_then_exit ?_ | refine k_blk_eq ?_ | (refine c_cond_p (by exact rfl) (fun h => ?_) (fun h => ?_) <;> try (exfalso; omega))
    refine ret1 [] rfl rfl rfl ⟨congrArg (Value.int .i64) ?_, rfl⟩
    simp [ha (by omega), hb (by omega)]
theorem sizes_ok (n m : Int) (w : World) :
    Calls Tryz.prog 74 #[.int .i64 n, .int .i64 m] w (Post w No (Just (.int .i64 (sizesK n m)))) := by
  refine enter0 (vs := [_, _]) Tryz.func74 rfl Tryz.ntmps74 rfl ?_
  repeat' first
    | refine k_then ?_ | refine c_seq ?_ | refine c_region ?_ | refine s_nil ?_ | refine s_move (by exact rfl) (by exact rfl) ?_ | refine s_assign (by exact rfl) (by exact rfl) ?_ | refine s_lss (by exact rfl) (by exact rfl) (by exact rfl) ?_ | refine s_gtr (by exact rfl) (by exact rfl) (by exact rfl) ?_ | refine c_block ?_ | refine c_skip ?_ | refine c_ret ?_ | refine k_then_ret ?_ | refine k_blk ?_ | refine k_blk_ret ?_ | (refine c_cond_p (by exact rfl) (fun h => ?_) (fun h => ?_) <;> try (exfalso; omega))
  all_goals refine ret1 [] rfl rfl rfl ⟨?_, rfl⟩
  all_goals (refine congrArg (Value.int .i64) ?_; simp only [sizesK]; repeat' split)
  all_goals omega
theorem alone_ok (n : Int) (e : E) (w : World) :
    Calls Tryz.prog 76 #[.int .i64 n, .agg (eV e).toArray] w (Post w No (Just (.int .i64 (aloneK n e.1 e.2.1 e.2.2)))) := by
  refine enter0 (vs := [_, _]) Tryz.func76 rfl Tryz.ntmps76 rfl ?_
  repeat' first
    | refine k_then ?_ | refine c_seq ?_ | refine c_region ?_ | refine s_nil ?_ | refine s_move (by exact rfl) (by exact rfl) ?_ | refine s_assign (by exact rfl) (by exact rfl) ?_ | refine s_fa (by exact rfl) (by exact rfl) ?_ | refine s_ld_box (by exact rfl) (by exact rfl) (by exact .head _) (by exact rfl) ?_ | refine s_lss (by exact rfl) (by exact rfl) (by exact rfl) ?_ | refine s_leq (by exact rfl) (by exact rfl) (by exact rfl) ?_ | refine s_eql (by exact rfl) (by exact rfl) (by exact rfl) ?_ | refine s_min (by exact rfl) (by exact rfl) (by exact rfl) ?_ | refine s_pick_t (by exact rfl) (by exact rfl) (by exact rfl) ?_ | refine s_pick_f (by exact rfl) (by exact rfl) (by exact rfl) ?_ | refine o_box (by exact rfl) (by exact rfl) (fun b => ?_) | refine c_block ?_ | refine c_skip ?_ | refine c_ret ?_ | refine k_then_ret ?_ | refine k_blk ?_ | refine k_blk_ret ?_ | (refine c_cond_p (by exact rfl) (fun h => ?_) (fun h => ?_) <;> try (exfalso; omega)) | refine c_cond_t (by exact rfl) ?_ | (refine g_case (by exact rfl) (by exact rfl) (fun h => ?_) (fun h => ?_) <;> try (exfalso; omega)) | refine g_skip (by exact rfl) (by exact rfl) (by exact rfl) (by exact rfl) ?_ | refine w_move (by exact rfl) (by exact rfl) (by exact rfl) (by exact rfl) ?_ | refine w_fa (by exact rfl) (by exact rfl) (by exact rfl) (by exact rfl) ?_ | refine w_ld_box (by exact rfl) (by exact rfl) (by exact rfl) (by exact rfl) (by exact .head _) (by exact rfl) ?_ | refine w_geq (by exact rfl) (by exact rfl) (by exact rfl) (by exact rfl) (by exact rfl) ?_ | refine w_max (by exact rfl) (by exact rfl) (by exact rfl) (by exact rfl) (by exact rfl) ?_
  all_goals refine ret1 [] rfl rfl rfl ⟨?_, rfl⟩
  all_goals (refine congrArg (Value.int .i64) ?_; simp only [aloneK]; repeat' split)
  all_goals omega
theorem order_ok (a b : E) (w : World) : Calls Tryz.prog 78 #[.agg (eV a).toArray, .agg (eV b).toArray] w (Post w No (Just (.int .i64 (orderK a b)))) := by
  refine enter0 (vs := [_, _]) Tryz.func78 rfl Tryz.ntmps78 rfl ?_
  repeat' first
    | refine k_then ?_ | refine c_seq ?_ | refine c_region ?_ | refine s_nil ?_ | refine s_assign (by exact rfl) (by exact rfl) ?_ | refine o_box (by exact rfl) (by exact rfl) (fun b => ?_)
  refine p_begin0 [(0, true), (1, true), (2, true), (3, true), (5, true), (6, true), (7, true), (8, true), (4, false), (9, false), (10, false), (11, false), (12, true)] (by kernel_rfl) ?_
  repeat' first
    | (refine p_at (by exact rfl) ?_
       first
        | refine t_fa (by exact rfl) (by exact rfl) (by exact fun _ h => h) ?_ | refine t_ld_box (by exact rfl) (by exact rfl) (by first | exact .head _ | exact .tail _ (.head _)) (by exact rfl) (by exact fun _ h => h) ?_)
  refine p_call (gd := none) (by exact rfl) rfl (by exact rfl) (fun w hs => Compare_ok _ _ w) (by exact fun _ h => h) ?_
  refine p_call (gd := none) (by exact rfl) rfl (by exact rfl) (fun w hs => Compare_ok _ _ w) (by exact fun _ h => h) ?_
  refine p_mk [_, _] (by exact rfl) rfl (by exact rfl) rfl ?_ ?_ (by simp) (fun w A h => h.tl) (fun s hs => ?_)
  · simp [Value.cells]
  · simp
  refine p_call (gd := none) (by exact rfl) rfl (by exact rfl) (fun w h => Or_ok s _ _ w (ro_own h (.head _)) hs) (by exact fun _ h => h.tl) ?_
  repeat' first
    | refine p_nil ?_
    | (refine p_at (by exact rfl) ?_
       first
        | refine t_assign (by exact rfl) (by exact rfl) (by exact fun _ h => h.tl) ?_)
  repeat' first
    | refine k_then ?_ | refine c_ret ?_
  refine ret1 [] rfl rfl rfl ⟨?_, rfl⟩
  simp [orderK]
def prev (es : List E) (k : Nat) : Option E := if k = 0 then none else es[k - 1]?
theorem Right_ok (n : Int) (v : Value) (es : List E) (w : World) (hs : Shp v es.length) (hr : RO w No v (esV es)) (hm : es.length < 4611686018427387904) :
    Calls Tryz.prog 53 #[.agg #[.int .i64 n, v]] w (Post w No (Just (.int .i64 (rightK n es)))) := by
  refine enter0 (vs := [_]) Tryz.func53 rfl Tryz.ntmps53 rfl ?_
  repeat' first
    | refine k_then ?_ | refine c_seq ?_ | refine c_region ?_ | refine s_nil ?_ | refine s_assign (by exact rfl) (by exact rfl) ?_ | refine s_fa (by exact rfl) (by exact rfl) ?_ | refine s_ld_box (by exact rfl) (by exact rfl) (by exact .head _) (by exact rfl) ?_ | refine s_len (by exact rfl) (by exact rfl) (by assumption) ?_ | refine o_box (by exact rfl) (by exact rfl) (fun b => ?_)
  refine s_call (by exact rfl) (by exact rfl) (fun w hs => sizes_ok _ _ w) ?_
  repeat' first
    | refine k_then ?_ | refine c_seq ?_ | refine c_region ?_ | refine s_nil ?_ | refine s_move (by exact rfl) (by exact rfl) ?_ | refine s_assign (by exact rfl) (by exact rfl) ?_ | refine s_fa (by exact rfl) (by exact rfl) ?_ | refine s_ld_box (by exact rfl) (by exact rfl) (by exact .head _) (by exact rfl) ?_ | refine s_neq (by exact rfl) (by exact rfl) (by exact rfl) ?_ | refine s_len (by exact rfl) (by exact rfl) (by assumption) ?_ | refine c_block ?_ | refine c_skip ?_ | refine c_ret ?_ | refine k_then_ret ?_ | (refine c_cond_p (by exact rfl) (fun h => ?_) (fun h => ?_) <;> try (exfalso; omega))
  · refine ret1 [] rfl rfl rfl ⟨congrArg (Value.int .i64) ?_, rfl⟩
    rw [rightK, if_neg h]
  · have h0 : sizesK n es.length = 0 := by simpa using h
    refine c_loop (fun k : Nat => k ≤ es.length ∧ scan n (prev es k) (es.drop k) = scan n none es) (fun k => [(1, .pointer (some ⟨b, 0, none⟩)), (17, v), (18, .int .i64 (es.length : Int)), (19, .int .i64 (k : Int))]) (fun _ => [boxHP b 24 [.int .i64 n, v]]) (fun k => es.length - k) 0 [0] ⟨by omega, rfl⟩ rfl ⟨rfl, rfl, rfl, rfl, trivial⟩ ?_
    rintro k ⟨hk, hsc⟩
    by_cases hlt : k < es.length
    · obtain ⟨e, he⟩ : ∃ e, es[k]? = some e := ⟨_, List.getElem?_eq_getElem hlt⟩
      have hE := esV_at he
      rw [scan_at he] at hsc
      repeat' first
        | refine k_then ?_ | refine c_seq ?_ | refine c_region ?_ | refine s_nil ?_ | refine s_move (by exact rfl) (by exact rfl) ?_ | refine s_assign (by exact rfl) (by exact rfl) ?_ | refine s_lss (by exact rfl) (by exact rfl) (by exact rfl) ?_ | refine s_idx (by exact rfl) (by exact rfl) (by exact rfl) (by assumption) (by first | assumption | omega) ?_ | refine s_ldk_ro (by exact rfl) (by exact rfl) (by assumption) (by decide) (by assumption) (by exact rfl) ?_ | refine o_alloc (by exact rfl) (fun b => ?_) | refine c_block ?_ | refine c_skip ?_ | (refine c_cond_p (by exact rfl) (fun h => ?_) (fun h => ?_) <;> try (exfalso; omega))
      refine o_stk_box (i := 0) (us := eV e) (by exact rfl) (by exact rfl) (by exact rfl) (by exact rfl) (by exact rfl) (by simp [eV, Value.oneCell']) (by simp [Value.cells]) ?_
      repeat' first
        | refine k_then ?_ | refine c_seq ?_ | refine c_region ?_ | refine s_nil ?_ | refine s_fa (by exact rfl) (by exact rfl) ?_ | refine s_ld_box (by exact rfl) (by exact rfl) (by exact .tail _ (.head _)) (by exact rfl) ?_ | refine s_ldk_box (by exact rfl) (by exact rfl) (by exact .head _) (by exact rfl) (by exact rfl) ?_
      refine s_call (by exact rfl) (by exact rfl) (fun w hs => alone_ok n e w) ?_
      repeat' first
        | refine k_then ?_ | refine c_seq ?_ | refine c_region ?_ | refine s_nil ?_ | refine s_move (by exact rfl) (by exact rfl) ?_ | refine s_assign (by exact rfl) (by exact rfl) ?_ | refine s_fa (by exact rfl) (by exact rfl) ?_ | refine s_ld_box (by exact rfl) (by exact rfl) (by exact .head _) (by exact rfl) ?_ | refine s_gtr (by exact rfl) (by exact rfl) (by exact rfl) ?_ | refine s_eql (by exact rfl) (by exact rfl) (by exact rfl) ?_ | refine s_neq (by exact rfl) (by exact rfl) (by exact rfl) ?_ | refine s_add (by exact rfl) (by exact rfl) (by exact rfl) (by omega) ?_ | refine c_block ?_ | refine c_skip ?_ | refine c_exit ?_ | refine c_ret ?_ | refine k_then_ret ?_ | refine k_then_exit ?_ | refine k_blk ?_ | refine k_blk_ret ?_ | refine k_blk_eq ?_ | refine k_blk_ne (by exact rfl) ?_ | (refine c_cond_p (by exact rfl) (fun h => ?_) (fun h => ?_) <;> try (exfalso; omega))
      · refine ret1 [] rfl rfl rfl ⟨congrArg (Value.int .i64) ?_, rfl⟩
        rw [rightK, if_pos h0, ← hsc, if_neg h]
      · refine ret1 [] rfl rfl rfl ⟨congrArg (Value.int .i64) ?_, rfl⟩
        rw [rightK, if_pos h0, ← hsc, if_pos (by omega), if_pos h]
      · refine c_round (k + 1) [1] (by exact rfl) (by exact ⟨rfl, rfl, rfl, rfl, trivial⟩) ⟨by omega, ?_⟩ (by omega)
        obtain rfl : k = 0 := by omega
        rw [← hsc, if_pos (by omega), if_neg (by omega)]
        simp only [prev, Nat.zero_add, Nat.one_ne_zero, if_false, Nat.sub_self, he, if_true]
      · obtain ⟨q, hq⟩ : ∃ q, es[k - 1]? = some q := ⟨_, List.getElem?_eq_getElem (by omega)⟩
        have hQ : ((esV es).drop (((k : Int) - 1).toNat * 3)).take 3 = eV q := by
          rw [show ((k : Int) - 1).toNat = k - 1 from by omega]
          exact esV_at hq
        have hpr : prev es k = some q := by rw [prev, if_neg (by omega), hq]
        rw [hpr] at hsc
        refine p_begin0 [(0, true), (1, true), (2, true), (3, true), (4, true), (5, true), (6, true), (7, false)] (by kernel_rfl) ?_
        repeat' first
          | (refine p_at (by exact rfl) ?_
             first
              | refine t_move (by exact rfl) (by exact rfl) (by exact fun _ h => h) ?_ | refine t_fa (by exact rfl) (by exact rfl) (by exact fun _ h => h) ?_ | refine t_ld_box (by exact rfl) (by exact rfl) (by exact .tail _ (.head _)) (by exact rfl) (by exact fun _ h => h) ?_ | refine t_sub (by exact rfl) (by exact rfl) (by exact rfl) (by omega) (by exact fun _ h => h) ?_ | refine t_idxi (by exact rfl) (by exact rfl) (by exact rfl) (by assumption) (by first | assumption | omega) (by exact fun _ h => h) ?_ | refine t_ldk_box (by exact rfl) (by exact rfl) (by exact .head _) (by exact rfl) (by exact rfl) (by exact fun _ h => h) ?_ | refine t_ldk_ro (by exact rfl) (by exact rfl) (by assumption) (by decide) (by assumption) (by exact rfl) (by exact fun _ h => h) ?_)
        refine p_call (gd := none) (by exact rfl) rfl (by exact rfl) (fun w hs => order_ok q e w) (by exact fun _ h => h) ?_
        repeat' first
          | refine p_nil ?_
        repeat' first
          | refine k_then ?_ | refine c_seq ?_ | refine c_region ?_ | refine s_nil ?_ | refine s_move (by exact rfl) (by exact rfl) ?_ | refine s_assign (by exact rfl) (by exact rfl) ?_ | refine s_eql (by exact rfl) (by exact rfl) (by exact rfl) ?_ | refine s_add (by exact rfl) (by exact rfl) (by exact rfl) (by omega) ?_ | refine c_block ?_ | refine c_skip ?_ | refine c_ret ?_ | refine k_then_ret ?_ | refine k_blk ?_ | refine k_blk_ret ?_ | (refine c_cond_p (by exact rfl) (fun h => ?_) (fun h => ?_) <;> try (exfalso; omega))
        · refine ret1 [] rfl rfl rfl ⟨congrArg (Value.int .i64) ?_, rfl⟩
          rw [rightK, if_pos h0, ← hsc, if_pos (by omega), if_neg (by omega)]
          simp only [if_pos h]
        · refine ret1 [] rfl rfl rfl ⟨congrArg (Value.int .i64) ?_, rfl⟩
          rw [rightK, if_pos h0, ← hsc, if_pos (by omega), if_neg (by omega)]
          simp only [if_pos h]
          split <;> first | omega | rfl
        · refine c_round (k + 1) [1] (by exact rfl) (by exact ⟨rfl, rfl, rfl, rfl, trivial⟩) ⟨by omega, ?_⟩ (by omega)
          rw [← hsc, if_pos (by omega), if_neg (by omega)]
          simp only [prev, Nat.add_sub_cancel, he]
          rw [if_neg (by omega), if_neg (by omega), if_neg (by omega)]
    · repeat' first
        | refine k_then ?_ | refine c_seq ?_ | refine c_region ?_ | refine s_nil ?_ | refine s_assign (by exact rfl) (by exact rfl) ?_ | refine s_lss (by exact rfl) (by exact rfl) (by exact rfl) ?_ | refine c_exit ?_ | refine c_ret ?_ | refine k_then_exit ?_ | refine k_blk_eq ?_ | (refine c_cond_p (by exact rfl) (fun h => ?_) (fun h => ?_) <;> try (exfalso; omega))
      refine ret1 [] rfl rfl rfl ⟨congrArg (Value.int .i64) ?_, rfl⟩
      rw [rightK, if_pos h0, ← hsc, List.drop_eq_nil_of_le (by omega)]
      simp [scan]
end Go.Proofs.YtpajjnkmaebhcabGreat
end
section
namespace Go.Proofs
open Go.Shelf
def Tryz.sortInts_ren : Go.Shelf.Ren := ⟨fun | 5 => 46 | 8 => 81 | 7 => 80 | 19 => 113 | 20 => 114 | 10 => 104 | 11 => 105 | 12 => 106 | 13 => 107 | 14 => 108 | 15 => 109 | 16 => 110 | 17 => 111 | 18 => 112 | 30 => 141 | 31 => 142 | 32 => 143 | 33 => 144 | 34 => 145 | 35 => 129 | 40 => 155 | n => n, fun | 23 => 28 | 25 => 3 | 3 => 3 | 32 => 111 | 22 => 28 | 0 => 0 | 44 => 156 | 46 => 158 | 4 => 4 | 36 => 149 | 35 => 148 | 41 => 78 | 5 => 5 | 9 => 9 | 53 => 187 | 57 => 191 | 63 => 197 | 64 => 93 | n => n, fun | n => n⟩
theorem Tryz.sortInts : Go.Proofs.SlLaysM.n5 Tryz.prog Tryz.sortInts_ren := {
  mixed := by kernel_rfl
  f5 := ⟨Tryz.f46.name, by decide, Tryz.func46.trans (congrArg some (by kernel_rfl))⟩
  f7 := ⟨Tryz.f80.name, by decide, Tryz.func80.trans (congrArg some (by kernel_rfl))⟩
  f8 := Tryz.func81.trans (congrArg some (by kernel_rfl))
  f10 := ⟨Tryz.f104.name, by decide, Tryz.func104.trans (congrArg some (by kernel_rfl))⟩
  f11 := ⟨Tryz.f105.name, by decide, Tryz.func105.trans (congrArg some (by kernel_rfl))⟩
  f12 := ⟨Tryz.f106.name, by decide, Tryz.func106.trans (congrArg some (by kernel_rfl))⟩
  f13 := ⟨Tryz.f107.name, by decide, Tryz.func107.trans (congrArg some (by kernel_rfl))⟩
  f14 := ⟨Tryz.f108.name, by decide, Tryz.func108.trans (congrArg some (by kernel_rfl))⟩
  f15 := ⟨Tryz.f109.name, by decide, Tryz.func109.trans (congrArg some (by kernel_rfl))⟩
  f16 := ⟨Tryz.f110.name, by decide, Tryz.func110.trans (congrArg some (by kernel_rfl))⟩
  f17 := ⟨Tryz.f111.name, by decide, Tryz.func111.trans (congrArg some (by kernel_rfl))⟩
  f18 := ⟨Tryz.f112.name, by decide, Tryz.func112.trans (congrArg some (by kernel_rfl))⟩
  f19 := Tryz.func113.trans (congrArg some (by kernel_rfl))
  f20 := Tryz.func114.trans (congrArg some (by kernel_rfl))
  f30 := ⟨Tryz.f141.name, by decide, Tryz.func141.trans (congrArg some (by kernel_rfl))⟩
  f31 := Tryz.func142.trans (congrArg some (by kernel_rfl))
  f32 := Tryz.func143.trans (congrArg some (by kernel_rfl))
  f33 := ⟨Tryz.f144.name, by decide, Tryz.func144.trans (congrArg some (by kernel_rfl))⟩
  f34 := ⟨Tryz.f145.name, by decide, Tryz.func145.trans (congrArg some (by kernel_rfl))⟩
  f35 := ⟨Tryz.f129.name, by decide, Tryz.func129.trans (congrArg some (by kernel_rfl))⟩
  f40 := ⟨Tryz.f155.name, by decide, Tryz.func155.trans (congrArg some (by kernel_rfl))⟩
  t0 := Tryz.underlying0
  a0 := Tryz.isAgg0
  z0 := Tryz.sizeOf0
  v0 := Tryz.zeroValue0
  t3 := Tryz.underlying3
  a3 := Tryz.isAgg3
  z3 := Tryz.sizeOf3
  v3 := Tryz.zeroValue3
  t4 := Tryz.underlying4
  a4 := Tryz.isAgg4
  z4 := Tryz.sizeOf4
  v4 := Tryz.zeroValue4
  t5 := Tryz.underlying5
  a5 := Tryz.isAgg5
  z5 := Tryz.sizeOf5
  v5 := Tryz.zeroValue5
  t9 := Tryz.underlying9
  a9 := Tryz.isAgg9
  z9 := Tryz.sizeOf9
  v9 := Tryz.zeroValue9
  t22 := Tryz.underlying28
  a22 := Tryz.isAgg28
  z22 := Tryz.sizeOf28
  v22 := Tryz.zeroValue28
  t23 := Tryz.underlying28
  a23 := Tryz.isAgg28
  z23 := Tryz.sizeOf28
  v23 := Tryz.zeroValue28
  t25 := Tryz.underlying3
  a25 := Tryz.isAgg3
  z25 := Tryz.sizeOf3
  v25 := Tryz.zeroValue3
  t32 := Tryz.underlying111
  a32 := Tryz.isAgg111
  z32 := Tryz.sizeOf111
  v32 := Tryz.zeroValue111
  t35 := Tryz.underlying148
  a35 := Tryz.isAgg148
  z35 := Tryz.sizeOf148
  v35 := Tryz.zeroValue148
  t36 := Tryz.underlying149
  a36 := Tryz.isAgg149
  z36 := Tryz.sizeOf149
  v36 := Tryz.zeroValue149
  t41 := Tryz.underlying78
  a41 := Tryz.isAgg78
  z41 := Tryz.sizeOf78
  v41 := Tryz.zeroValue78
  t44 := Tryz.underlying156
  a44 := Tryz.isAgg156
  z44 := Tryz.sizeOf156
  v44 := Tryz.zeroValue156
  t46 := Tryz.underlying158
  a46 := Tryz.isAgg158
  z46 := Tryz.sizeOf158
  v46 := Tryz.zeroValue158
  t53 := Tryz.underlying187
  a53 := Tryz.isAgg187
  z53 := Tryz.sizeOf187
  v53 := Tryz.zeroValue187
  t57 := Tryz.underlying191
  a57 := Tryz.isAgg191
  z57 := Tryz.sizeOf191
  v57 := Tryz.zeroValue191
  t63 := Tryz.underlying197
  a63 := Tryz.isAgg197
  z63 := Tryz.sizeOf197
  v63 := Tryz.zeroValue197
  t64 := Tryz.underlying93
  a64 := Tryz.isAgg93
  z64 := Tryz.sizeOf93
  v64 := Tryz.zeroValue93 }
end Go.Proofs
namespace Go.Sl
open Go Go.RowKit Go.Sort Go.Proofs
def iV (l : List Int) : List Value := l.map (Value.int .i64)
def nV (l : List Nat) : List Value := l.map fun (k : Nat) => .int .i64 (k : Int)
theorem putCells_take (cur : Array Value) (off : Nat) (ts : List Int) (h : off + ts.length ≤ cur.size) : ((putCells (Value.int .i64) off ts.toArray cur).toList.drop off).take ts.length = ts.map (Value.int .i64) := by
  apply List.ext_getElem?
  intro j
  by_cases hj : j < ts.length
  · rw [List.getElem?_take_of_lt hj, List.getElem?_drop, Array.getElem?_toList]
    simp [putCells, hj, show off + j < cur.size by omega]
  · rw [List.getElem?_take_eq_none (by omega), List.getElem?_eq_none (by simp; omega)]
theorem sort_row {w : World} {v : Value} {e : TypeId} {l : List Int} {S : FS} (h : (rowHP v e 1 l.length (iV l)).sat S w) (hlen : l.length < 4611686018427387904) :
    Calls Tryz.prog 46 #[v] w (Post w S fun r L' => r = .tuple #[] ∧ L' = [rowHP v e 1 l.length (iV (l.mergeSort fun x y => decide (x ≤ y)))]) := by
  rcases h.2 with ⟨rfl, h0⟩ | ⟨g, off, cap, cur, rfl, h2, h3, h4, h5, h6, h7⟩ | ⟨⟨a0, rfl⟩, h0⟩
  · have hl : l = [] := List.eq_nil_of_length_eq_zero h0
    subst hl
    have c := AnyM.slices_Sort_int_none Tryz.sortInts none 0 w
    change Calls Tryz.prog 46 _ _ _ at c
    refine Calls.mono c ?_
    rintro e' w' ⟨rfl, hw⟩
    subst hw
    refine ⟨_, _, ⟨rfl, rfl⟩, rfl, S, Mod.refl _ _, S, fun _ => False, fun _ h => h, fun _ h => h.elim, fun _ _ h => h, ?_, trivial⟩
    simpa [iV] using h
  · have hg := (Array.getElem?_eq_some_iff.1 h3).1
    have hH : Holds (Value.int .i64) w g off l.toArray := by
      intro j hj
      have hj' : j < l.length := by simpa using hj
      refine ⟨?_, by simp [World.frozen?, h3]⟩
      have h1 : ((cur.toList.drop off).take (l.length * 1))[j]? = (iV l)[j]? := by rw [h7]
      rw [List.getElem?_take_of_lt (by omega), List.getElem?_drop] at h1
      simp only [World.cell?, h3]
      simp only [Option.isSome_none, Bool.false_eq_true, if_false]
      rw [← Array.getElem?_toList, h1]
      simp [iV, hj']
    have c := AnyM.slices_Sort_int Tryz.sortInts g off cap l w hH hg hlen
    change Calls Tryz.prog 46 _ _ _ at c
    refine Calls.mono c ?_
    rintro e' w' ⟨rfl, n, os, rfl⟩
    refine ⟨_, _, ⟨rfl, rfl⟩, rfl, S, ⟨rfl, rfl, rfl, Nat.le_add_right _ _, by simp, fun k hk hS => ?_, fun k h => .inl h⟩, S, fun _ => False, fun _ h => h, fun _ h => h.elim, fun _ _ h => h, ?_, trivial⟩
    · rw [heap_grow_old _ _ (by simpa using hk)]
      have : g ≠ k := fun e => hS (by rw [← e]; exact h2)
      simp [putRow, mapBlock, Sort.ahead, Array.getElem?_modify, this]
    · have hlen' : (l.mergeSort fun x y => decide (x ≤ y)).length = l.length := List.length_mergeSort _
      refine ⟨by simp [iV], .inr (.inl ⟨g, off, cap, putCells (Value.int .i64) off (l.mergeSort fun x y => decide (x ≤ y)).toArray cur, rfl, h2, ?_, h4, h5, by simp [putCells, h6], ?_⟩)⟩
      · rw [heap_grow_old _ _ (by simpa using hg)]
        simp [putRow, mapBlock, Sort.ahead, Array.getElem?_modify, h3, onCells]
      · have := putCells_take cur off (l.mergeSort fun x y => decide (x ≤ y)) (by rw [hlen', h6]; omega)
        rw [hlen'] at this
        rw [Nat.mul_one]
        exact this
  · have hl : l = [] := List.eq_nil_of_length_eq_zero h0
    subst hl
    have c := AnyM.slices_Sort_int_none Tryz.sortInts (some a0) 0 w
    change Calls Tryz.prog 46 _ _ _ at c
    refine Calls.mono c ?_
    rintro e' w' ⟨rfl, hw⟩
    subst hw
    refine ⟨_, _, ⟨rfl, rfl⟩, rfl, S, Mod.refl _ _, S, fun _ => False, fun _ h => h, fun _ h => h.elim, fun _ _ h => h, ?_, trivial⟩
    simpa [iV] using h
theorem nat_sort (l : List Nat) : (l.map fun (k : Nat) => (k : Int)).mergeSort (fun x y => decide (x ≤ y)) = (l.mergeSort fun x y => decide (x ≤ y)).map fun (k : Nat) => (k : Int) := by
  exact (List.map_mergeSort (r := fun (x y : Nat) => decide (x ≤ y)) (s := fun (x y : Int) => decide (x ≤ y)) (f := fun (k : Nat) => (k : Int)) (fun a _ b _ => by simp)).symm
theorem nsort_row {w : World} {v : Value} {e : TypeId} {l : List Nat} {S : FS} (h : (rowHP v e 1 l.length (nV l)).sat S w) (hlen : l.length < 4611686018427387904) :
    Calls Tryz.prog 46 #[v] w (Post w S fun r L' => r = .tuple #[] ∧ L' = [rowHP v e 1 l.length (nV (l.mergeSort fun x y => decide (x ≤ y)))]) := by
  have e1 : ∀ l : List Nat, nV l = iV (l.map fun (k : Nat) => (k : Int)) := fun l => by simp [nV, iV]
  rw [e1] at h
  have := sort_row (l := l.map fun (k : Nat) => (k : Int)) (by simpa using h) (by simpa using hlen)
  rw [nat_sort, List.length_map] at this
  simpa only [e1] using this
end Go.Sl
end
section
namespace Go.Proofs.YtpajjnkmaebhcabGreat
open Go.RowKit Go.Sl Fil
set_option maxRecDepth 100000
set_option maxHeartbeats 8000000
set_option linter.unusedVariables false
set_option linter.unusedSimpArgs false
attribute [local irreducible] Code.wp wpList bodyPost wpQuiet Exit.then Exit.inBlock Post wpAnyH wpOp
theorem esV_get {es : List E} {k : Nat} {e : E} (h : es[k]? = some e) : (esV es)[k * 3 + 0]? = some (.int .i64 e.1) ∧ (esV es)[k * 3 + 1]? = some (.int .i64 e.2.1) ∧ (esV es)[k * 3 + 2]? = some (.int .i64 e.2.2) := by
  have h1 := esV_at h
  have key : ∀ j, j < 3 → (esV es)[k * 3 + j]? = (eV e)[j]? := fun j hj => by
    rw [← h1, List.getElem?_take, if_pos hj, List.getElem?_drop]
  exact ⟨key 0 (by omega), key 1 (by omega), key 2 (by omega)⟩
theorem many_ok (n m : Int) (w : World) : Calls Tryz.prog 40 #[.int .i64 n, .int .i64 m] w (Post w No (Just (.int .i64 (sizesK n m)))) := by
  refine enter0 (vs := [_, _]) Tryz.func40 rfl Tryz.ntmps40 rfl ?_
  repeat' first
    | refine k_then ?_ | refine c_seq ?_ | refine c_region ?_ | refine s_nil ?_ | refine s_move (by exact rfl) (by exact rfl) ?_ | refine s_assign (by exact rfl) (by exact rfl) ?_ | refine s_lss (by exact rfl) (by exact rfl) (by exact rfl) ?_ | refine s_gtr (by exact rfl) (by exact rfl) (by exact rfl) ?_ | refine s_pick_t (by exact rfl) (by exact rfl) (by exact rfl) ?_ | refine s_pick_f (by exact rfl) (by exact rfl) (by exact rfl) ?_ | refine c_skip ?_ | refine c_ret ?_ | refine k_then_ret ?_ | (refine c_cond_p (by exact rfl) (fun h => ?_) (fun h => ?_) <;> try (exfalso; omega)) | refine c_cond_t (by exact rfl) ?_ | (refine g_case (by exact rfl) (by exact rfl) (fun h => ?_) (fun h => ?_) <;> try (exfalso; omega)) | refine g_skip (by exact rfl) (by exact rfl) (by exact rfl) (by exact rfl) ?_ | refine w_move (by exact rfl) (by exact rfl) (by exact rfl) (by exact rfl) ?_ | refine w_gtr (by exact rfl) (by exact rfl) (by exact rfl) (by exact rfl) (by exact rfl) ?_
  all_goals refine ret1 [] rfl rfl rfl ⟨?_, rfl⟩
  all_goals (refine congrArg (Value.int .i64) ?_; simp only [sizesK]; repeat' split)
  all_goals omega
theorem edge_ok (n : Int) (e : E) (w : World) : Calls Tryz.prog 41 #[.int .i64 n, .agg (eV e).toArray] w (Post w No (Just (.int .i64 (aloneK n e.1 e.2.1 e.2.2)))) := by
  refine enter0 (vs := [_, _]) Tryz.func41 rfl Tryz.ntmps41 rfl ?_
  repeat' first
    | refine k_then ?_ | refine c_seq ?_ | refine c_region ?_ | refine s_nil ?_ | refine s_move (by exact rfl) (by exact rfl) ?_ | refine s_assign (by exact rfl) (by exact rfl) ?_ | refine s_fa (by exact rfl) (by exact rfl) ?_ | refine s_ld_box (by exact rfl) (by exact rfl) (by exact .head _) (by exact rfl) ?_ | refine s_lss (by exact rfl) (by exact rfl) (by exact rfl) ?_ | refine s_leq (by exact rfl) (by exact rfl) (by exact rfl) ?_ | refine s_eql (by exact rfl) (by exact rfl) (by exact rfl) ?_ | refine s_pick_t (by exact rfl) (by exact rfl) (by exact rfl) ?_ | refine s_pick_f (by exact rfl) (by exact rfl) (by exact rfl) ?_ | refine o_box (by exact rfl) (by exact rfl) (fun b => ?_) | refine c_skip ?_ | refine c_ret ?_ | refine k_then_ret ?_ | (refine c_cond_p (by exact rfl) (fun h => ?_) (fun h => ?_) <;> try (exfalso; omega)) | refine c_cond_t (by exact rfl) ?_ | (refine g_case (by exact rfl) (by exact rfl) (fun h => ?_) (fun h => ?_) <;> try (exfalso; omega)) | refine g_skip (by exact rfl) (by exact rfl) (by exact rfl) (by exact rfl) ?_ | refine w_move (by exact rfl) (by exact rfl) (by exact rfl) (by exact rfl) ?_ | refine w_fa (by exact rfl) (by exact rfl) (by exact rfl) (by exact rfl) ?_ | refine w_ld_box (by exact rfl) (by exact rfl) (by exact rfl) (by exact rfl) (by exact .head _) (by exact rfl) ?_ | refine w_lss (by exact rfl) (by exact rfl) (by exact rfl) (by exact rfl) (by exact rfl) ?_ | refine w_geq (by exact rfl) (by exact rfl) (by exact rfl) (by exact rfl) (by exact rfl) ?_
  all_goals refine ret1 [] rfl rfl rfl ⟨?_, rfl⟩
  all_goals (refine congrArg (Value.int .i64) ?_; simp only [aloneK]; repeat' split)
  all_goals omega
theorem below_ok (a b : E) (w : World) : Calls Tryz.prog 42 #[.agg (eV a).toArray, .agg (eV b).toArray] w (Post w No (Just (.bool (belowB a b)))) := by
  refine enter0 (vs := [_, _]) Tryz.func42 rfl Tryz.ntmps42 rfl ?_
  repeat' first
    | refine k_then ?_ | refine c_seq ?_ | refine c_region ?_ | refine s_nil ?_ | refine s_move (by exact rfl) (by exact rfl) ?_ | refine s_assign (by exact rfl) (by exact rfl) ?_ | refine s_fa (by exact rfl) (by exact rfl) ?_ | refine s_ld_box (by exact rfl) (by exact rfl) (by first | exact .head _ | exact .tail _ (.head _)) (by exact rfl) ?_ | refine s_lss (by exact rfl) (by exact rfl) (by exact rfl) ?_ | refine s_pick_t (by exact rfl) (by exact rfl) (by exact rfl) ?_ | refine s_pick_f (by exact rfl) (by exact rfl) (by exact rfl) ?_ | refine o_box (by exact rfl) (by exact rfl) (fun b => ?_) | refine c_ret ?_ | (refine g_case (by exact rfl) (by exact rfl) (fun h => ?_) (fun h => ?_) <;> try (exfalso; omega)) | refine g_skip (by exact rfl) (by exact rfl) (by exact rfl) (by exact rfl) ?_ | refine w_move (by exact rfl) (by exact rfl) (by exact rfl) (by exact rfl) ?_ | refine w_fa (by exact rfl) (by exact rfl) (by exact rfl) (by exact rfl) ?_ | refine w_ld_box (by exact rfl) (by exact rfl) (by exact rfl) (by exact rfl) (by first | exact .head _ | exact .tail _ (.head _)) (by exact rfl) ?_ | refine w_lss (by exact rfl) (by exact rfl) (by exact rfl) (by exact rfl) (by exact rfl) ?_ | refine w_eql (by exact rfl) (by exact rfl) (by exact rfl) (by exact rfl) (by exact rfl) ?_ | refine w_pick_t (by exact rfl) (by exact rfl) (by exact rfl) (by exact rfl) (by exact rfl) ?_ | refine w_pick_f (by exact rfl) (by exact rfl) (by exact rfl) (by exact rfl) (by exact rfl) ?_
  all_goals refine ret1 [] rfl rfl rfl ⟨?_, rfl⟩
  all_goals (refine congrArg Value.bool ?_; simp only [belowB])
  all_goals simp_all
theorem refRight_ok (n : Int) (v : Value) (es : List E) (w : World) (hs : Shp v es.length) (hr : RO w No v (esV es)) (hm : es.length < 4611686018427387904) :
    Calls Tryz.prog 39 #[.agg #[.int .i64 n, v]] w (Post w No (Just (.int .i64 (rightK n es)))) := by
  refine enter0 (vs := [_]) Tryz.func39 rfl Tryz.ntmps39 rfl ?_
  repeat' first
    | refine k_then ?_ | refine c_seq ?_ | refine c_region ?_ | refine s_nil ?_ | refine s_assign (by exact rfl) (by exact rfl) ?_ | refine s_fa (by exact rfl) (by exact rfl) ?_ | refine s_ld_box (by exact rfl) (by exact rfl) (by exact .head _) (by exact rfl) ?_ | refine s_len (by exact rfl) (by exact rfl) (by assumption) ?_ | refine o_box (by exact rfl) (by exact rfl) (fun b => ?_)
  refine s_call (by exact rfl) (by exact rfl) (fun w hs => many_ok _ _ w) ?_
  repeat' first
    | refine k_then ?_ | refine c_seq ?_ | refine c_region ?_ | refine s_nil ?_ | refine s_move (by exact rfl) (by exact rfl) ?_ | refine s_assign (by exact rfl) (by exact rfl) ?_ | refine s_neq (by exact rfl) (by exact rfl) (by exact rfl) ?_ | refine c_block ?_ | refine c_skip ?_ | refine c_ret ?_ | refine k_then_ret ?_ | (refine c_cond_p (by exact rfl) (fun h => ?_) (fun h => ?_) <;> try (exfalso; omega))
  · refine ret1 [] rfl rfl rfl ⟨congrArg (Value.int .i64) ?_, rfl⟩
    rw [rightK, if_neg h]
  · have h0 : sizesK n es.length = 0 := by simpa using h
    refine c_loop (fun k : Nat => k ≤ es.length ∧ scan n (prev es k) (es.drop k) = scan n none es) (fun k => [(1, .pointer (some ⟨b, 0, none⟩)), (4, .int .i64 (k : Int))]) (fun _ => [boxHP b 24 [.int .i64 n, v]]) (fun k => es.length - k) 0 [0] ⟨by omega, rfl⟩ rfl ⟨rfl, rfl, trivial⟩ ?_
    rintro k ⟨hk, hsc⟩
    by_cases hlt : k < es.length
    · obtain ⟨e, he⟩ : ∃ e, es[k]? = some e := ⟨_, List.getElem?_eq_getElem hlt⟩
      have hE := esV_at he
      obtain ⟨hE0, hE1, hE2⟩ := esV_get he
      rw [scan_at he] at hsc
      repeat' first
        | refine k_then ?_ | refine c_seq ?_ | refine c_region ?_ | refine s_nil ?_ | refine s_move (by exact rfl) (by exact rfl) ?_ | refine s_fa (by exact rfl) (by exact rfl) ?_ | refine s_ld_box (by exact rfl) (by exact rfl) (by exact .head _) (by exact rfl) ?_ | refine s_lss (by exact rfl) (by exact rfl) (by exact rfl) ?_ | refine s_len (by exact rfl) (by exact rfl) (by assumption) ?_ | refine c_block ?_ | refine c_skip ?_ | (refine c_cond_p (by exact rfl) (fun h => ?_) (fun h => ?_) <;> try (exfalso; omega))
      refine p_begin0 [(0, true), (1, true), (2, true), (3, true), (4, true), (5, true), (6, true), (7, false), (8, true)] (by kernel_rfl) ?_
      repeat' first
        | (refine p_at (by exact rfl) ?_
           first
            | refine t_move (by exact rfl) (by exact rfl) (by exact fun _ h => h) ?_ | refine t_fa (by exact rfl) (by exact rfl) (by exact fun _ h => h) ?_ | refine t_ld_box (by exact rfl) (by exact rfl) (by exact .head _) (by exact rfl) (by exact fun _ h => h) ?_ | refine t_idx (by exact rfl) (by exact rfl) (by exact rfl) (by assumption) (by first | assumption | omega) (by exact fun _ h => h) ?_ | refine t_ldk_ro (by exact rfl) (by exact rfl) (by assumption) (by decide) (by assumption) (by exact rfl) (by exact fun _ h => h) ?_)
      refine p_call (gd := none) (by exact rfl) rfl (by exact rfl) (fun w hs => edge_ok n e w) (by exact fun _ h => h) ?_
      repeat' first
        | refine p_nil ?_
        | (refine p_at (by exact rfl) ?_
           first
            | refine t_assign (by exact rfl) (by exact rfl) (by exact fun _ h => h) ?_)
      repeat' first
        | refine k_then ?_ | refine c_seq ?_ | refine c_region ?_ | refine s_nil ?_ | refine s_move (by exact rfl) (by exact rfl) ?_ | refine s_assign (by exact rfl) (by exact rfl) ?_ | refine s_neq (by exact rfl) (by exact rfl) (by exact rfl) ?_ | refine c_skip ?_ | refine c_ret ?_ | refine k_then_ret ?_ | refine k_blk_ret ?_ | (refine c_cond_p (by exact rfl) (fun h => ?_) (fun h => ?_) <;> try (exfalso; omega))
      · refine ret1 [] rfl rfl rfl ⟨congrArg (Value.int .i64) ?_, rfl⟩
        rw [rightK, if_pos h0, ← hsc, if_neg h]
      · refine p_begin0 [(0, true), (1, true), (2, true), (3, true), (4, true), (5, true), (6, true), (7, true), (8, true), (9, true), (10, true), (11, true), (12, true)] (by kernel_rfl) ?_
        repeat' first
          | refine p_nil ?_
          | (refine p_at (by exact rfl) ?_
             first
              | refine t_move (by exact rfl) (by exact rfl) (by exact fun _ h => h) ?_ | refine t_fa (by exact rfl) (by exact rfl) (by exact fun _ h => h) ?_ | refine t_ld_box (by exact rfl) (by exact rfl) (by exact .head _) (by exact rfl) (by exact fun _ h => h) ?_ | refine t_gtr (by exact rfl) (by exact rfl) (by exact rfl) (by exact fun _ h => h) ?_ | refine t_idx (by exact rfl) (by exact rfl) (by exact rfl) (by assumption) (by first | assumption | omega) (by exact fun _ h => h) ?_ | refine t_fap (by exact rfl) (by exact rfl) (by assumption) (by omega) (by exact fun _ h => h) ?_ | refine t_ld_ro (by exact rfl) (by exact rfl) (by assumption) (by assumption) (by exact fun _ h => h) ?_)
        repeat' first
          | refine k_then ?_ | refine c_seq ?_ | refine c_region ?_ | refine s_nil ?_ | refine s_assign (by exact rfl) (by exact rfl) ?_ | refine c_skip ?_ | refine c_ret ?_ | refine k_then_ret ?_ | refine k_blk_ret ?_ | (refine c_cond_p (by exact rfl) (fun h => ?_) (fun h => ?_) <;> try (exfalso; omega))
        · refine ret1 [] rfl rfl rfl ⟨congrArg (Value.int .i64) ?_, rfl⟩
          rw [rightK, if_pos h0, ← hsc, if_pos (by omega), if_pos h]
        · refine p_begin0 [(0, true), (1, true), (2, true), (3, true), (4, true), (5, true), (6, true), (7, true), (8, true), (9, true), (10, true), (11, true), (12, true), (13, true), (14, false), (15, true), (16, true)] (by kernel_rfl) ?_
          by_cases hk0 : k = 0
          · subst hk0
            repeat' first
              | refine p_nil ?_
              | (refine p_at (by exact rfl) ?_
                 first
                  | refine t_move (by exact rfl) (by exact rfl) (by exact fun _ h => h) ?_ | refine t_gtr (by exact rfl) (by exact rfl) (by exact rfl) (by exact fun _ h => h) ?_ | refine t_pick_f (by exact rfl) (by exact rfl) (by exact rfl) (by exact fun _ h => h) ?_ | (refine t_case (by exact rfl) (by exact rfl) (fun h => ?_) (fun h => ?_) <;> try (exfalso; omega)) | refine t_skip (by exact rfl) (by exact rfl) (by exact rfl) (by exact rfl) (by exact fun _ h => h) ?_ | refine t_skipl (by exact rfl) (by exact rfl) (by exact rfl) (by exact rfl) (by exact fun _ h => h) ?_)
            repeat' first
              | refine k_then ?_ | refine c_region ?_ | refine s_nil ?_ | refine s_move (by exact rfl) (by exact rfl) ?_ | refine s_assign (by exact rfl) (by exact rfl) ?_ | refine s_add (by exact rfl) (by exact rfl) (by exact rfl) (by omega) ?_ | refine c_skip ?_ | refine k_blk ?_ | refine c_cond_f (by exact rfl) ?_
            refine c_round 1 [0] (by exact rfl) (by exact ⟨rfl, rfl, trivial⟩) ⟨by omega, ?_⟩ (by omega)
            rw [← hsc, if_pos (by omega), if_neg (by omega)]
            simp only [prev, Nat.one_ne_zero, if_false, Nat.sub_self, he, if_true, Nat.zero_add]
          · obtain ⟨q, hq⟩ : ∃ q, es[k - 1]? = some q := ⟨_, List.getElem?_eq_getElem (by omega)⟩
            have hQ : ((esV es).drop (((k : Int) - 1).toNat * 3)).take 3 = eV q := by
              rw [show ((k : Int) - 1).toNat = k - 1 from by omega]
              exact esV_at hq
            have hpr : prev es k = some q := by rw [prev, if_neg hk0, hq]
            rw [hpr] at hsc
            repeat' first
              | (refine p_at (by exact rfl) ?_
                 first
                  | refine t_move (by exact rfl) (by exact rfl) (by exact fun _ h => h) ?_ | refine t_gtr (by exact rfl) (by exact rfl) (by exact rfl) (by exact fun _ h => h) ?_ | refine tw_move (by exact rfl) (by exact rfl) (by exact rfl) (by exact rfl) (by exact fun _ h => h) ?_ | refine tw_fa (by exact rfl) (by exact rfl) (by exact rfl) (by exact rfl) (by exact fun _ h => h) ?_ | refine tw_ld_box (by exact rfl) (by exact rfl) (by exact rfl) (by exact rfl) (by exact .head _) (by exact rfl) (by exact fun _ h => h) ?_ | refine tw_sub (by exact rfl) (by exact rfl) (by exact rfl) (by exact rfl) (by exact rfl) (by omega) (by exact fun _ h => h) ?_ | refine tw_idx (by exact rfl) (by exact rfl) (by exact rfl) (by exact rfl) (by exact rfl) (by assumption) (by first | assumption | omega) (by exact fun _ h => h) ?_ | refine tw_idxi (by exact rfl) (by exact rfl) (by exact rfl) (by exact rfl) (by exact rfl) (by assumption) (by first | assumption | omega) (by exact fun _ h => h) ?_ | refine tw_ldk_ro (by exact rfl) (by exact rfl) (by exact rfl) (by exact rfl) (by assumption) (by decide) (by assumption) (by exact rfl) (by exact fun _ h => h) ?_ | (refine t_case (by exact rfl) (by exact rfl) (fun h => ?_) (fun h => ?_) <;> try (exfalso; omega)))
            refine p_callw (by exact rfl) (by exact rfl) (by exact rfl) rfl (by exact rfl) (fun w hs => below_ok q e w) (by exact fun _ h => h) ?_
            have hb1 := orderK_below q e
            have hrg := orderK_range q e
            cases hbl : belowB q e
            · have ho : orderK q e ≠ -1 := fun hh => by rw [hb1.1.2 hh] at hbl; simp at hbl
              repeat' first
                | refine p_nil ?_
                | (refine p_at (by exact rfl) ?_
                   first
                    | refine t_pick_t (by exact rfl) (by exact rfl) (by exact rfl) (by exact fun _ h => h) ?_ | refine tw_not (by exact rfl) (by exact rfl) (by exact rfl) (by exact rfl) (by exact fun _ h => h) ?_)
              repeat' first
                | refine k_then ?_ | refine c_seq ?_ | refine c_cond_t (by exact rfl) ?_
              refine p_begin0 [(0, true), (1, true), (2, true), (3, true), (4, true), (5, true), (6, true), (7, true), (8, true), (9, true), (10, true), (11, false)] (by kernel_rfl) ?_
              repeat' first
                | (refine p_at (by exact rfl) ?_
                   first
                    | refine t_move (by exact rfl) (by exact rfl) (by exact fun _ h => h) ?_ | refine t_fa (by exact rfl) (by exact rfl) (by exact fun _ h => h) ?_ | refine t_ld_box (by exact rfl) (by exact rfl) (by exact .head _) (by exact rfl) (by exact fun _ h => h) ?_ | refine t_sub (by exact rfl) (by exact rfl) (by exact rfl) (by omega) (by exact fun _ h => h) ?_ | refine t_idx (by exact rfl) (by exact rfl) (by exact rfl) (by assumption) (by first | assumption | omega) (by exact fun _ h => h) ?_ | refine t_idxi (by exact rfl) (by exact rfl) (by exact rfl) (by assumption) (by first | assumption | omega) (by exact fun _ h => h) ?_ | refine t_ldk_ro (by exact rfl) (by exact rfl) (by assumption) (by decide) (by assumption) (by exact rfl) (by exact fun _ h => h) ?_)
              refine p_call (gd := none) (by exact rfl) rfl (by exact rfl) (fun w hs => below_ok e q w) (by exact fun _ h => h) ?_
              cases hbl2 : belowB e q
              · have ho2 : orderK q e ≠ 1 := fun hh => by rw [hb1.2.2 hh] at hbl2; simp at hbl2
                repeat' first
                  | refine p_nil ?_
                repeat' first
                  | refine k_then ?_ | refine c_seq ?_ | refine c_region ?_ | refine s_nil ?_ | refine s_assign (by exact rfl) (by exact rfl) ?_ | refine c_skip ?_ | refine c_ret ?_ | refine k_then_ret ?_ | refine k_blk_ret ?_ | refine c_cond_f (by exact rfl) ?_
                refine ret1 [] rfl rfl rfl ⟨congrArg (Value.int .i64) ?_, rfl⟩
                rw [rightK, if_pos h0, ← hsc, if_pos (by omega), if_neg (by omega)]
                dsimp only
                rw [if_pos (by omega)]
              · have ho2 := hb1.2.1 hbl2
                repeat' first
                  | refine p_nil ?_
                repeat' first
                  | refine k_then ?_ | refine c_seq ?_ | refine c_region ?_ | refine s_nil ?_ | refine s_assign (by exact rfl) (by exact rfl) ?_ | refine c_ret ?_ | refine k_then_ret ?_ | refine k_blk_ret ?_ | refine c_cond_t (by exact rfl) ?_
                refine ret1 [] rfl rfl rfl ⟨congrArg (Value.int .i64) ?_, rfl⟩
                rw [rightK, if_pos h0, ← hsc, if_pos (by omega), if_neg (by omega)]
                dsimp only
                rw [if_neg (by omega), if_pos (by omega)]
            · have ho := hb1.1.1 hbl
              repeat' first
                | refine p_nil ?_
                | (refine p_at (by exact rfl) ?_
                   first
                    | refine t_pick_t (by exact rfl) (by exact rfl) (by exact rfl) (by exact fun _ h => h) ?_ | refine tw_not (by exact rfl) (by exact rfl) (by exact rfl) (by exact rfl) (by exact fun _ h => h) ?_)
              repeat' first
                | refine k_then ?_ | refine c_region ?_ | refine s_nil ?_ | refine s_move (by exact rfl) (by exact rfl) ?_ | refine s_assign (by exact rfl) (by exact rfl) ?_ | refine s_add (by exact rfl) (by exact rfl) (by exact rfl) (by omega) ?_ | refine c_skip ?_ | refine k_blk ?_ | refine c_cond_f (by exact rfl) ?_
              refine c_round (k + 1) [0] (by exact rfl) (by exact ⟨rfl, rfl, trivial⟩) ⟨by omega, ?_⟩ (by omega)
              rw [← hsc, if_pos (by omega), if_neg (by omega)]
              simp only [prev, Nat.add_sub_cancel, he]
              rw [if_neg (by omega), if_neg (by omega), if_neg (by omega)]
    · repeat' first
        | refine k_then ?_ | refine c_seq ?_ | refine c_region ?_ | refine s_nil ?_ | refine s_move (by exact rfl) (by exact rfl) ?_ | refine s_assign (by exact rfl) (by exact rfl) ?_ | refine s_fa (by exact rfl) (by exact rfl) ?_ | refine s_ld_box (by exact rfl) (by exact rfl) (by exact .head _) (by exact rfl) ?_ | refine s_lss (by exact rfl) (by exact rfl) (by exact rfl) ?_ | refine s_len (by exact rfl) (by exact rfl) (by assumption) ?_ | refine c_exit ?_ | refine c_ret ?_ | refine k_then_exit ?_ | refine k_blk_eq ?_ | (refine c_cond_p (by exact rfl) (fun h => ?_) (fun h => ?_) <;> try (exfalso; omega))
      refine ret1 [] rfl rfl rfl ⟨congrArg (Value.int .i64) ?_, rfl⟩
      rw [rightK, if_pos h0, ← hsc, List.drop_eq_nil_of_le (by omega)]
      simp [scan]
theorem Ints_ok (a b : Value) (x y : List Int) (w : World) (ha : Shp a x.length) (hb : Shp b y.length) (hra : RO w No a (iV x)) (hrb : RO w No b (iV y)) :
    Calls Tryz.prog 30 #[a, b] w (Post w No (Just (.bool (decide (x = y))))) := by
  have hm := ha.1
  simp only [maxLen] at hm
  refine enter0 (vs := [_, _]) Tryz.func30 rfl Tryz.ntmps30 rfl ?_
  repeat' first
    | refine k_then ?_ | refine c_seq ?_ | refine c_region ?_ | refine s_nil ?_ | refine s_move (by exact rfl) (by exact rfl) ?_ | refine s_assign (by exact rfl) (by exact rfl) ?_ | refine s_neq (by exact rfl) (by exact rfl) (by exact rfl) ?_ | refine s_len (by exact rfl) (by exact rfl) (by assumption) ?_ | refine c_block ?_ | refine c_skip ?_ | refine c_ret ?_ | refine k_then_ret ?_ | (refine c_cond_p (by exact rfl) (fun h => ?_) (fun h => ?_) <;> try (exfalso; omega))
  · refine ret1 [] rfl rfl rfl ⟨congrArg Value.bool ?_, rfl⟩
    exact (decide_eq_false fun e => h (by rw [e])).symm
  · refine c_loop (fun k : Nat => k ≤ x.length ∧ x.take k = y.take k) (fun k => [(0, a), (1, b), (5, .int .i64 (k : Int))]) (fun _ => []) (fun k => x.length - k) 0 [] ⟨by omega, rfl⟩ rfl ⟨rfl, rfl, rfl, trivial⟩ ?_
    rintro k ⟨hk, hq⟩
    by_cases hlt : k < x.length
    · obtain ⟨c, hc⟩ : ∃ c, x[k]? = some c := ⟨_, List.getElem?_eq_getElem hlt⟩
      obtain ⟨d, hd⟩ : ∃ d, y[k]? = some d := ⟨_, List.getElem?_eq_getElem (by omega)⟩
      have h1 : (iV x)[k * 1]? = some (.int .i64 c) := by simp [iV, hc]
      have h2 : (iV y)[k * 1]? = some (.int .i64 d) := by simp [iV, hd]
      repeat' first
        | refine k_then ?_ | refine c_seq ?_ | refine c_region ?_ | refine s_nil ?_ | refine s_move (by exact rfl) (by exact rfl) ?_ | refine s_lss (by exact rfl) (by exact rfl) (by exact rfl) ?_ | refine s_len (by exact rfl) (by exact rfl) (by assumption) ?_ | refine c_block ?_ | refine c_skip ?_ | (refine c_cond_p (by exact rfl) (fun h => ?_) (fun h => ?_) <;> try (exfalso; omega))
      refine p_begin0 [(0, true), (1, true), (2, true), (3, true), (4, true), (5, true), (6, true), (7, true), (8, true)] (by kernel_rfl) ?_
      repeat' first
        | refine p_nil ?_
        | (refine p_at (by exact rfl) ?_
           first
            | refine t_move (by exact rfl) (by exact rfl) (by exact fun _ h => h) ?_ | refine t_neq (by exact rfl) (by exact rfl) (by exact rfl) (by exact fun _ h => h) ?_ | refine t_idx (by exact rfl) (by exact rfl) (by exact rfl) (by assumption) (by first | assumption | omega) (by exact fun _ h => h) ?_ | refine t_ld_ro (by exact rfl) (by exact rfl) (by assumption) (by assumption) (by exact fun _ h => h) ?_)
      repeat' first
        | refine k_then ?_ | refine c_seq ?_ | refine c_region ?_ | refine s_nil ?_ | refine s_move (by exact rfl) (by exact rfl) ?_ | refine s_assign (by exact rfl) (by exact rfl) ?_ | refine s_add (by exact rfl) (by exact rfl) (by exact rfl) (by omega) ?_ | refine c_skip ?_ | refine c_ret ?_ | refine k_then_ret ?_ | refine k_blk ?_ | refine k_blk_ret ?_ | (refine c_cond_p (by exact rfl) (fun h => ?_) (fun h => ?_) <;> try (exfalso; omega))
      · refine ret1 [] rfl rfl rfl ⟨congrArg Value.bool ?_, rfl⟩
        refine (decide_eq_false fun e => ?_).symm
        subst e
        rw [hc] at hd
        simp at hd
        omega
      · refine c_round (k + 1) [] (by exact rfl) (by exact ⟨rfl, rfl, rfl, trivial⟩) ⟨by omega, ?_⟩ (by omega)
        have : c = d := by omega
        subst this
        rw [List.take_add_one, List.take_add_one, hq, hc, hd]
    · repeat' first
        | refine k_then ?_ | refine c_seq ?_ | refine c_region ?_ | refine s_nil ?_ | refine s_move (by exact rfl) (by exact rfl) ?_ | refine s_assign (by exact rfl) (by exact rfl) ?_ | refine s_lss (by exact rfl) (by exact rfl) (by exact rfl) ?_ | refine s_len (by exact rfl) (by exact rfl) (by assumption) ?_ | refine c_exit ?_ | refine c_ret ?_ | refine k_then_exit ?_ | refine k_blk_eq ?_ | (refine c_cond_p (by exact rfl) (fun h => ?_) (fun h => ?_) <;> try (exfalso; omega))
      refine ret1 [] rfl rfl rfl ⟨congrArg Value.bool ?_, rfl⟩
      refine (decide_eq_true ?_).symm
      rw [List.take_of_length_le (by omega), List.take_of_length_le (by omega)] at hq
      exact hq
theorem Light_ok (n : Int) (v : Value) (m : Nat) (k : Int) (w : World) (hs : Shp v m) (hk : 0 ≤ k ∧ k < 1000000) :
    Calls Tryz.prog 18 #[.agg #[.int .i64 n, v], .int .i64 k] w (Post w No (Just (.bool (decide (n ≤ k) && decide ((m : Int) ≤ 4 * k))))) := by
  refine enter0 (vs := [_, _]) Tryz.func18 rfl Tryz.ntmps18 rfl ?_
  repeat' first
    | refine k_then ?_ | refine c_seq ?_ | refine c_region ?_ | refine s_nil ?_ | refine s_move (by exact rfl) (by exact rfl) ?_ | refine s_assign (by exact rfl) (by exact rfl) ?_ | refine s_fa (by exact rfl) (by exact rfl) ?_ | refine s_ld_box (by exact rfl) (by exact rfl) (by exact .head _) (by exact rfl) ?_ | refine s_leq (by exact rfl) (by exact rfl) (by exact rfl) ?_ | refine s_pick_t (by exact rfl) (by exact rfl) (by exact rfl) ?_ | refine s_pick_f (by exact rfl) (by exact rfl) (by exact rfl) ?_ | refine o_box (by exact rfl) (by exact rfl) (fun b => ?_) | refine c_ret ?_ | (refine g_case (by exact rfl) (by exact rfl) (fun h => ?_) (fun h => ?_) <;> try (exfalso; omega)) | refine g_skip (by exact rfl) (by exact rfl) (by exact rfl) (by exact rfl) ?_ | refine w_move (by exact rfl) (by exact rfl) (by exact rfl) (by exact rfl) ?_ | refine w_fa (by exact rfl) (by exact rfl) (by exact rfl) (by exact rfl) ?_ | refine w_ld_box (by exact rfl) (by exact rfl) (by exact rfl) (by exact rfl) (by exact .head _) (by exact rfl) ?_ | refine w_leq (by exact rfl) (by exact rfl) (by exact rfl) (by exact rfl) (by exact rfl) ?_ | refine w_mul (by exact rfl) (by exact rfl) (by exact rfl) (by exact rfl) (by exact rfl) (by omega) ?_ | refine w_len (by exact rfl) (by exact rfl) (by exact rfl) (by exact rfl) (by assumption) ?_
  all_goals refine ret1 [] rfl rfl rfl ⟨?_, rfl⟩
  all_goals refine congrArg Value.bool ?_
  · rw [decide_eq_true h, Bool.true_and]
  · rw [decide_eq_false h, Bool.false_and]
end Go.Proofs.YtpajjnkmaebhcabGreat
end
section
namespace Fil
theorem getD_set {α : Type} (l : List α) (u v : Nat) (x d : α) : (l.set u x).getD v d = if u = v ∧ u < l.length then x else l.getD v d := by
  simp only [List.getD_eq_getElem?_getD, List.getElem?_set]
  by_cases h : u = v
  · subst h
    by_cases h2 : u < l.length
    · simp [h2]
    · simp [h2]
  · simp [h]
/-- c is one on both ends of each edge -/
def OnEdges (N : Nat) (A : Nat → List Nat) (c : Nat → Nat) : Prop := ∀ v, v < N → ∀ u ∈ A v, c u = c v
structure Adj (N : Nat) (A : Nat → List Nat) : Prop where
  lt : ∀ v, v < N → ∀ u ∈ A v, u < N
  sym : ∀ v u, v < N → u ∈ A v → v ∈ A u
structure Bfs (N : Nat) (A : Nat → List Nat) (first : Nat) (met : List Bool) (out : List Nat) (lab : Nat → Nat) (line : List Nat) : Prop where
  lm : met.length = N
  lo : out.length = N
  line_lt : ∀ v ∈ line, v < N
  line_met : ∀ v ∈ line, met.getD v false = true
  line_lab : ∀ v ∈ line, lab v = first
  order : line.Pairwise fun a b => out.getD a 0 ≤ out.getD b 0
  head : ∀ a, line.head? = some a → ∀ b ∈ line, out.getD b 0 ≤ out.getD a 0 + 1
  done : ∀ w, w < N → met.getD w false = true → w ∉ line → ∀ u ∈ A w, met.getD u false = true ∧ lab u = lab w ∧ out.getD u 0 ≤ out.getD w 0 + 1
  low : ∀ w, w < N → met.getD w false = true → w ∉ line → lab w = first → ∀ b ∈ line, out.getD w 0 ≤ out.getD b 0
  up : ∀ v k, v < N → met.getD v false = true → out.getD v 0 = k + 1 → ∃ u ∈ A v, met.getD u false = true ∧ out.getD u 0 = k
  root : ∀ v, v < N → met.getD v false = true → (out.getD v 0 = 0 ↔ lab v = v)
  zero : ∀ v, met.getD v false = false → out.getD v 0 = 0
  lab_le : ∀ v, v < N → met.getD v false = true → lab v ≤ v
  lab_met : ∀ v, v < N → met.getD v false = true → met.getD (lab v) false = true ∧ lab (lab v) = lab v
  conn : ∀ v, v < N → met.getD v false = true → ∀ c, OnEdges N A c → c v = c (lab v)
  below : ∀ w, w < first → met.getD w false = true
/-- met, from the current one -/
def Seen (A : Nat → List Nat) (first : Nat) (met : List Bool) (out : List Nat) (lab : Nat → Nat) (v j : Nat) : Prop :=
  ∀ u ∈ (A v).take j, met.getD u false = true ∧ lab u = first ∧ out.getD u 0 ≤ out.getD v 0 + 1
theorem Bfs.old {N : Nat} {A : Nat → List Nat} {first v u j : Nat} {met : List Bool} {out : List Nat} {lab : Nat → Nat} {rest : List Nat} (hA : Adj N A) (h : Bfs N A first met out lab (v :: rest)) (hs : Seen A first met out lab v j) (hu : (A v)[j]? = some u) (hm : met.getD u false = true) : Seen A first met out lab v (j + 1) := by
  have hv : v < N := h.line_lt v (by simp)
  have huA : u ∈ A v := List.mem_of_getElem? hu
  have hun := hA.lt v hv u huA
  intro x hx
  rw [List.take_add_one, hu] at hx
  rcases List.mem_append.1 hx with hx | hx
  · exact hs x hx
  · obtain rfl : x = u := by simpa using hx
    refine ⟨hm, ?_⟩
    by_cases hl : x ∈ v :: rest
    · exact ⟨h.line_lab x hl, h.head v rfl x hl⟩
    · obtain ⟨_, h2, _⟩ := h.done x hun hm hl v (hA.sym v x hv huA)
      have hv1 := h.line_lab v (by simp)
      have hf : lab x = first := by rw [← h2, hv1]
      refine ⟨hf, ?_⟩
      have := h.low x hun hm hl hf v (by simp)
      omega
theorem Bfs.new {N : Nat} {A : Nat → List Nat} {first v u j : Nat} {met : List Bool} {out : List Nat} {lab : Nat → Nat} {rest : List Nat} (hA : Adj N A) (h : Bfs N A first met out lab (v :: rest)) (hs : Seen A first met out lab v j) (hu : (A v)[j]? = some u) (hm : met.getD u false = false) :
    Bfs N A first (met.set u true) (out.set u (out.getD v 0 + 1)) (fun x => if x = u then first else lab x) (v :: rest ++ [u]) ∧ Seen A first (met.set u true) (out.set u (out.getD v 0 + 1)) (fun x => if x = u then first else lab x) v (j + 1) := by
  have hv : v < N := h.line_lt v (by simp)
  have hvm := h.line_met v (by simp)
  have huA : u ∈ A v := List.mem_of_getElem? hu
  have hun := hA.lt v hv u huA
  have hul : u < met.length := by rw [h.lm]; exact hun
  have hulo : u < out.length := by rw [h.lo]; exact hun
  have hne : ∀ x, met.getD x false = true → x ≠ u := fun x hx e => by subst e; rw [hm] at hx; simp at hx
  have hnv := hne v hvm
  have M : ∀ x, (met.set u true).getD x false = if u = x then true else met.getD x false := fun x => by rw [getD_set]; simp [hul]
  have O : ∀ x, (out.set u (out.getD v 0 + 1)).getD x 0 = if u = x then out.getD v 0 + 1 else out.getD x 0 := fun x => by rw [getD_set]; simp [hulo]
  have Om : ∀ x, met.getD x false = true → (out.set u (out.getD v 0 + 1)).getD x 0 = out.getD x 0 := fun x hx => by rw [O, if_neg (Ne.symm (hne x hx))]
  have Mm : ∀ x, met.getD x false = true → (met.set u true).getD x false = true := fun x hx => by rw [M]; split <;> simp_all
  have Mt : ∀ x, (met.set u true).getD x false = true → x = u ∨ met.getD x false = true := fun x hx => by
    rw [M] at hx
    split at hx
    · left; rename_i e; exact e.symm
    · exact .inr hx
  have hlabv := h.line_lab v (by simp)
  have hfirst := h.lab_met v hv hvm
  rw [hlabv] at hfirst
  have hfu : first ≠ u := hne _ hfirst.1
  have hfle : first ≤ u := by
    rcases Nat.lt_or_ge u first with hlt | hge
    · have := h.below u hlt; rw [hm] at this; simp at this
    · exact hge
  refine ⟨⟨by simp [h.lm], by simp [h.lo], ?_, ?_, ?_, ?_, ?_, ?_, ?_, ?_, ?_, ?_, ?_, ?_, ?_, ?_⟩, ?_⟩
  · intro x hx
    rcases List.mem_append.1 hx with hx | hx
    · exact h.line_lt x hx
    · obtain rfl : x = u := by simpa using hx
      exact hun
  · intro x hx
    rcases List.mem_append.1 hx with hx | hx
    · exact Mm x (h.line_met x hx)
    · obtain rfl : x = u := by simpa using hx
      rw [M, if_pos rfl]
  · intro x hx
    rcases List.mem_append.1 hx with hx | hx
    · simp [hne x (h.line_met x hx), h.line_lab x hx]
    · obtain rfl : x = u := by simpa using hx
      simp
  · refine List.pairwise_append.2 ⟨?_, by simp, ?_⟩
    · refine h.order.imp_of_mem fun {a b} ha hb hab => ?_
      rw [Om a (h.line_met a ha), Om b (h.line_met b hb)]
      exact hab
    · intro a ha b hb
      obtain rfl : b = u := by simpa using hb
      rw [Om a (h.line_met a ha), O b, if_pos rfl]
      exact h.head v rfl a ha
  · intro a ha b hb
    obtain rfl : v = a := by simpa using ha
    rw [Om v hvm]
    rcases List.mem_append.1 hb with hb | hb
    · rw [Om b (h.line_met b hb)]
      exact h.head v rfl b hb
    · obtain rfl : b = u := by simpa using hb
      rw [O b, if_pos rfl]
      exact Nat.le_refl _
  · intro w hw hwm hwl x hx
    have hwu : w ≠ u := fun e => hwl (by simp [e])
    have hwm' : met.getD w false = true := (Mt w hwm).resolve_left hwu
    obtain ⟨h1, h2, h3⟩ := h.done w hw hwm' (fun hh => hwl (List.mem_append.2 (.inl hh))) x hx
    refine ⟨Mm x h1, ?_, ?_⟩
    · simp [hne x h1, hwu, h2]
    · rw [Om x h1, Om w hwm']; exact h3
  · intro w hw hwm hwl hwf b hb
    have hwu : w ≠ u := fun e => hwl (by simp [e])
    have hwm' : met.getD w false = true := (Mt w hwm).resolve_left hwu
    have hwl' : w ∉ v :: rest := fun hh => hwl (List.mem_append.2 (.inl hh))
    have hwf' : lab w = first := by simpa [hwu] using hwf
    rw [Om w hwm']
    rcases List.mem_append.1 hb with hb | hb
    · rw [Om b (h.line_met b hb)]
      exact h.low w hw hwm' hwl' hwf' b hb
    · obtain rfl : b = u := by simpa using hb
      rw [O b, if_pos rfl]
      have := h.low w hw hwm' hwl' hwf' v (by simp)
      omega
  · intro x k hx hxm hxk
    rcases Mt x hxm with rfl | hxm'
    · rw [O x, if_pos rfl] at hxk
      exact ⟨v, hA.sym v x hv huA, Mm v hvm, by rw [Om v hvm]; omega⟩
    · rw [Om x hxm'] at hxk
      obtain ⟨y, hy, hym, hyk⟩ := h.up x k hx hxm' hxk
      exact ⟨y, hy, Mm y hym, by rw [Om y hym]; exact hyk⟩
  · intro x hx hxm
    rcases Mt x hxm with rfl | hxm'
    · rw [O x, if_pos rfl, if_pos rfl]
      exact ⟨fun e => by omega, fun e => absurd e hfu⟩
    · rw [Om x hxm', if_neg (hne x hxm')]
      exact h.root x hx hxm'
  · intro x hx
    rw [M] at hx
    rw [O]
    split at hx
    · simp at hx
    · rename_i e
      rw [if_neg e]
      exact h.zero x hx
  · intro x hx hxm
    rcases Mt x hxm with rfl | hxm'
    · simpa using hfle
    · simpa [hne x hxm'] using h.lab_le x hx hxm'
  · intro x hx hxm
    rcases Mt x hxm with rfl | hxm'
    · simp only [if_true]
      refine ⟨Mm _ hfirst.1, ?_⟩
      rw [if_neg hfu]
      exact hfirst.2
    · obtain ⟨h1, h2⟩ := h.lab_met x hx hxm'
      rw [if_neg (hne x hxm')]
      refine ⟨Mm _ h1, ?_⟩
      rw [if_neg (hne _ h1)]
      exact h2
  · intro x hx hxm c hc
    rcases Mt x hxm with rfl | hxm'
    · rw [if_pos rfl, hc v hv x huA, ← hlabv]
      exact h.conn v hv hvm c hc
    · rw [if_neg (hne x hxm')]
      exact h.conn x hx hxm' c hc
  · intro w hw
    exact Mm w (h.below w hw)
  · intro x hx
    rw [List.take_add_one, hu] at hx
    rcases List.mem_append.1 hx with hx | hx
    · obtain ⟨h1, h2, h3⟩ := hs x hx
      refine ⟨Mm x h1, by simp [hne x h1, h2], ?_⟩
      rw [Om x h1, Om v hvm]; exact h3
    · obtain rfl : x = u := by simpa using hx
      refine ⟨by rw [M, if_pos rfl], by simp, ?_⟩
      rw [O x, if_pos rfl, Om v hvm]
      exact Nat.le_refl _
/-- the current one is done -/
theorem Bfs.pop {N : Nat} {A : Nat → List Nat} {first v : Nat} {met : List Bool} {out : List Nat} {lab : Nat → Nat} {rest : List Nat} (h : Bfs N A first met out lab (v :: rest)) (hs : Seen A first met out lab v (A v).length) : Bfs N A first met out lab rest := by
  rw [Seen, List.take_length] at hs
  have hv := h.line_lt v (by simp)
  have hvl := h.line_lab v (by simp)
  obtain ⟨ho1, ho2⟩ := List.pairwise_cons.1 h.order
  refine { h with line_lt := fun x hx => h.line_lt x (by simp [hx]), line_met := fun x hx => h.line_met x (by simp [hx]), line_lab := fun x hx => h.line_lab x (by simp [hx]), order := ho2, head := ?_, done := ?_, low := ?_ }
  · intro a ha b hb
    have h1 := h.head v rfl b (by simp [hb])
    have h2 := ho1 a (List.mem_of_mem_head? ha)
    omega
  · intro w hw hwm hwl u hu
    by_cases hwv : w = v
    · subst hwv
      obtain ⟨h1, h2, h3⟩ := hs u hu
      exact ⟨h1, by rw [h2, hvl], h3⟩
    · exact h.done w hw hwm (by simp [hwv, hwl]) u hu
  · intro w hw hwm hwl hwf b hb
    by_cases hwv : w = v
    · subst hwv; exact ho1 b hb
    · exact h.low w hw hwm (by simp [hwv, hwl]) hwf b (by simp [hb])
/-- the next one was met already -/
theorem Bfs.next {N : Nat} {A : Nat → List Nat} {first : Nat} {met : List Bool} {out : List Nat} {lab : Nat → Nat} (h : Bfs N A first met out lab []) (hm : met.getD first false = true) : Bfs N A (first + 1) met out lab [] :=
  { h with
    line_lab := fun v hv => by simp at hv
    low := fun w hw hwm hwl hwf b hb => by simp at hb
    below := fun w hw => by
      rcases Nat.lt_or_ge w first with hlt | hge
      · exact h.below w hlt
      · obtain rfl : w = first := by omega
        exact hm }
/-- .. or was not -/
theorem Bfs.start {N : Nat} {A : Nat → List Nat} {first : Nat} {met : List Bool} {out : List Nat} {lab : Nat → Nat} (h : Bfs N A first met out lab []) (hf : first < N) (hm : met.getD first false = false) : Bfs N A first (met.set first true) out (fun x => if x = first then first else lab x) [first] := by
  have hul : first < met.length := by rw [h.lm]; exact hf
  have hne : ∀ x, met.getD x false = true → x ≠ first := fun x hx e => by subst e; rw [hm] at hx; simp at hx
  have M : ∀ x, (met.set first true).getD x false = if first = x then true else met.getD x false := fun x => by rw [getD_set]; simp [hul]
  have Mm : ∀ x, met.getD x false = true → (met.set first true).getD x false = true := fun x hx => by rw [M]; split <;> simp_all
  have Mt : ∀ x, (met.set first true).getD x false = true → x = first ∨ met.getD x false = true := fun x hx => by
    rw [M] at hx
    split at hx
    · left; rename_i e; exact e.symm
    · exact .inr hx
  refine ⟨by simp [h.lm], h.lo, ?_, ?_, ?_, by simp, ?_, ?_, ?_, ?_, ?_, ?_, ?_, ?_, ?_, ?_⟩
  · intro x hx
    obtain rfl : x = first := by simpa using hx
    exact hf
  · intro x hx
    obtain rfl : x = first := by simpa using hx
    rw [M, if_pos rfl]
  · intro x hx
    obtain rfl : x = first := by simpa using hx
    simp
  · intro a ha b hb
    obtain rfl : first = a := by simpa using ha
    obtain rfl : b = first := by simpa using hb
    omega
  · intro w hw hwm hwl x hx
    have hwu : w ≠ first := fun e => hwl (by simp [e])
    have hwm' : met.getD w false = true := (Mt w hwm).resolve_left hwu
    obtain ⟨h1, h2, h3⟩ := h.done w hw hwm' (by simp) x hx
    exact ⟨Mm x h1, by simp [hne x h1, hwu, h2], h3⟩
  · intro w hw hwm hwl hwf b hb
    have hwu : w ≠ first := fun e => hwl (by simp [e])
    have hwm' : met.getD w false = true := (Mt w hwm).resolve_left hwu
    have hwf' : lab w = first := by simpa [hwu] using hwf
    have := (h.lab_met w hw hwm').1
    rw [hwf', hm] at this
    simp at this
  · intro x k hx hxm hxk
    rcases Mt x hxm with rfl | hxm'
    · rw [h.zero x hm] at hxk; omega
    · obtain ⟨y, hy, hym, hyk⟩ := h.up x k hx hxm' hxk
      exact ⟨y, hy, Mm y hym, hyk⟩
  · intro x hx hxm
    rcases Mt x hxm with rfl | hxm'
    · simp [-List.getD_eq_getElem?_getD, h.zero x hm]
    · rw [if_neg (hne x hxm')]
      exact h.root x hx hxm'
  · intro x hx
    rw [M] at hx
    split at hx
    · simp at hx
    · exact h.zero x hx
  · intro x hx hxm
    rcases Mt x hxm with rfl | hxm'
    · simp
    · simpa [hne x hxm'] using h.lab_le x hx hxm'
  · intro x hx hxm
    rcases Mt x hxm with rfl | hxm'
    · simp [-List.getD_eq_getElem?_getD, M]
    · obtain ⟨h1, h2⟩ := h.lab_met x hx hxm'
      rw [if_neg (hne x hxm')]
      refine ⟨Mm _ h1, ?_⟩
      rw [if_neg (hne _ h1)]
      exact h2
  · intro x hx hxm c hc
    rcases Mt x hxm with rfl | hxm'
    · rw [if_pos rfl]
    · rw [if_neg (hne x hxm')]
      exact h.conn x hx hxm' c hc
  · intro w hw
    exact Mm w (h.below w hw)
theorem Bfs.init (N : Nat) (A : Nat → List Nat) : Bfs N A 0 (List.replicate N false) (List.replicate N 0) (fun _ => 0) [] := by
  have hf : ∀ x, (List.replicate N false).getD x false = false := fun x => by
    simp only [List.getD_eq_getElem?_getD, List.getElem?_replicate]; split <;> rfl
  refine ⟨by simp, by simp, by simp, by simp, by simp, by simp, by simp, ?_, by simp, ?_, ?_, ?_, ?_, ?_, ?_, fun w hw => by omega⟩
  · intro w hw hm; rw [hf] at hm; simp at hm
  · intro w k hw hm; rw [hf] at hm; simp at hm
  · intro w hw hm; rw [hf] at hm; simp at hm
  · intro v _
    simp only [List.getD_eq_getElem?_getD, List.getElem?_replicate]; split <;> rfl
  · intro w hw hm; rw [hf] at hm; simp at hm
  · intro w hw hm; rw [hf] at hm; simp at hm
  · intro w hw hm; rw [hf] at hm; simp at hm
/-- levels, and the least one that each hangs together with -/
structure Lev (N : Nat) (A : Nat → List Nat) (o : Nat → Nat) (lab : Nat → Nat) : Prop where
  edge : ∀ w, w < N → ∀ u ∈ A w, lab u = lab w ∧ o u ≤ o w + 1
  up : ∀ v k, v < N → o v = k + 1 → ∃ u ∈ A v, o u = k
  root : ∀ v, v < N → (o v = 0 ↔ lab v = v)
  le : ∀ v, v < N → lab v ≤ v
  idem : ∀ v, v < N → lab (lab v) = lab v
  conn : ∀ v, v < N → ∀ c, OnEdges N A c → c v = c (lab v)
theorem Bfs.lev {N : Nat} {A : Nat → List Nat} {met : List Bool} {out : List Nat} {lab : Nat → Nat} (h : Bfs N A N met out lab []) : Lev N A (fun v => out.getD v 0) lab where
  edge w hw u hu := (h.done w hw (h.below w hw) (by simp) u hu).2
  up v k hv hk := (h.up v k hv (h.below v hv) hk).imp fun u hu => ⟨hu.1, hu.2.2⟩
  root v hv := h.root v hv (h.below v hv)
  le v hv := h.lab_le v hv (h.below v hv)
  idem v hv := (h.lab_met v hv (h.below v hv)).2
  conn v hv := h.conn v hv (h.below v hv)
/-- how many were not met -/
def unmet (met : List Bool) : Nat := met.countP (fun b => !b)
theorem unmet_set {met : List Bool} {u : Nat} (hu : u < met.length) (h : met.getD u false = false) : unmet (met.set u true) + 1 = unmet met := by
  induction met generalizing u with
  | nil => simp at hu
  | cons b l ih =>
    cases u with
    | zero =>
      obtain rfl : b = false := by simpa using h
      simp [unmet]
    | succ u =>
      have := ih (u := u) (by simpa using hu) (by simpa using h)
      simp only [unmet, List.set_cons_succ, List.countP_cons] at *
      omega
end Fil
end
section
namespace Fil
def okE (n : Int) (e : E) : Prop := 0 ≤ e.1 ∧ e.1 < e.2.1 ∧ e.2.1 < n ∧ -2147483648 < e.2.2 ∧ e.2.2 < 2147483648
def ltE (a b : E) : Prop := a.1 < b.1 ∨ a.1 = b.1 ∧ a.2.1 < b.2.1
structure RightG (n : Int) (es : List E) : Prop where
  lo : 0 ≤ n
  hi : n ≤ 1048576
  many : es.length ≤ 4194304
  ok : ∀ e ∈ es, okE n e
  sorted : es.Pairwise ltE
theorem ltE_trans {a b c : E} (h : ltE a b) (h' : ltE b c) : ltE a c := by
  simp only [ltE] at *; omega
theorem orderK_lt {a b : E} : orderK a b ≠ 0 ∧ orderK a b ≠ 1 ↔ ltE a b := by
  simp only [orderK, cmpK, ltE]
  (repeat' split) <;> omega
theorem aloneK_ok {n : Int} {e : E} : aloneK n e.1 e.2.1 e.2.2 = 0 ∧ ¬ e.2.1 < e.1 ↔ okE n e := by
  simp only [aloneK, okE]
  (repeat' split) <;> omega
theorem scan_iff {n : Int} : ∀ (es : List E) (p : Option E), scan n p es = 0 ↔ (∀ e ∈ es, okE n e) ∧ es.Pairwise ltE ∧ ∀ q, p = some q → ∀ e, es.head? = some e → ltE q e
  | [], p => by simp [scan]
  | e :: r, p => by
    have ih := scan_iff (n := n) r (some e)
    have key : scan n p (e :: r) = 0 ↔ okE n e ∧ (∀ q, p = some q → ltE q e) ∧ scan n (some e) r = 0 := by
      rw [← aloneK_ok]
      cases p with
      | none =>
        simp only [scan]
        (repeat' split) <;> simp_all
      | some q =>
        simp only [scan, Option.some.injEq, forall_eq', ← orderK_lt]
        (repeat' split) <;> simp_all
    rw [key, ih]
    constructor
    · rintro ⟨h1, h2, h3, h4, h5⟩
      refine ⟨fun x hx => (List.mem_cons.1 hx).elim (fun h => h ▸ h1) (h3 x), List.pairwise_cons.2 ⟨?_, h4⟩, fun q hq e' he' => ?_⟩
      · cases r with
        | nil => simp
        | cons x r =>
          have hx := h5 e rfl x rfl
          intro y hy
          rcases List.mem_cons.1 hy with rfl | hy
          · exact hx
          · exact ltE_trans hx ((List.pairwise_cons.1 h4).1 y hy)
      · obtain rfl : e = e' := by simpa using he'
        exact h2 q hq
    · rintro ⟨h1, h2, h3⟩
      obtain ⟨h4, h5⟩ := List.pairwise_cons.1 h2
      refine ⟨h1 e (by simp), fun q hq => h3 q hq e rfl, fun x hx => h1 x (by simp [hx]), h5, fun q hq y hy => ?_⟩
      obtain rfl : e = q := by simpa using hq
      exact h4 y (List.mem_of_mem_head? hy)
theorem right_iff {n : Int} {es : List E} : rightK n es = 0 ↔ RightG n es := by
  have hs : sizesK n es.length = 0 ↔ 0 ≤ n ∧ n ≤ 1048576 ∧ es.length ≤ 4194304 := by
    simp only [sizesK]
    (repeat' split) <;> omega
  rw [rightK]
  split
  · rename_i h
    obtain ⟨h1, h2, h3⟩ := hs.1 h
    rw [scan_iff]
    exact ⟨fun ⟨a, b, _⟩ => ⟨h1, h2, h3, a, b⟩, fun h => ⟨h.ok, h.sorted, fun q hq => by simp at hq⟩⟩
  · rename_i h
    exact ⟨fun h' => absurd h' h, fun h' => absurd (hs.2 ⟨h'.lo, h'.hi, h'.many⟩) h⟩
/-- edges, by numbers of vertices -/
def tn (es : List E) : List (Nat × Nat) := es.map fun e => (e.1.toNat, e.2.1.toNat)
/-- next to u, as the edges come -/
def nb (l : List (Nat × Nat)) (u : Nat) : List Nat := l.filterMap fun e => if e.1 = u then some e.2 else if e.2 = u then some e.1 else none
def nears (N : Nat) (l : List (Nat × Nat)) : List (List Nat) := (List.range N).map (nb l)
def nearS (l : List (Nat × Nat)) (u : Nat) : List Nat := (nb l u).mergeSort fun x y => decide (x ≤ y)
theorem nb_snoc (l : List (Nat × Nat)) (e : Nat × Nat) (u : Nat) : nb (l ++ [e]) u = nb l u ++ (if e.1 = u then [e.2] else if e.2 = u then [e.1] else []) := by
  simp only [nb, List.filterMap_append, List.filterMap_cons, List.filterMap_nil]
  split <;> (try split) <;> simp_all <;> split <;> simp_all
/-- one edge more -/
theorem nears_snoc {N : Nat} {l : List (Nat × Nat)} {u v : Nat} (hu : u < N) (hv : v < N) (hne : u ≠ v) : nears N (l ++ [(u, v)]) = ((nears N l).set u (nb l u ++ [v])).set v (nb l v ++ [u]) := by
  apply List.ext_getElem?
  intro k
  simp only [nears, List.getElem?_set, List.getElem?_map, List.length_set, List.length_map, List.length_range]
  by_cases hk : k < N
  · rw [List.getElem?_eq_getElem (by simpa using hk)]
    simp only [List.getElem_range, Option.map_some, nb_snoc]
    by_cases h1 : u = k
    · subst h1
      simp [Ne.symm hne, hu]
    · by_cases h2 : v = k
      · subst h2
        simp [hv, h1]
      · simp [h1, h2]
  · rw [List.getElem?_eq_none (by simpa using hk)]
    have h1 : u ≠ k := by omega
    have h2 : v ≠ k := by omega
    simp [h1, h2]
theorem nb_length (l : List (Nat × Nat)) (u : Nat) : (nb l u).length ≤ l.length := List.length_filterMap_le _ _
theorem nears_get {N : Nat} {l : List (Nat × Nat)} {u : Nat} (hu : u < N) : (nears N l)[u]? = some (nb l u) := by simp [nears, hu]
theorem nears_zero (N : Nat) : nears N [] = List.replicate N [] := by
  have : nb [] = fun _ => [] := rfl
  rw [nears, this, List.map_const', List.length_range]
theorem tn_take {es : List E} {k : Nat} {e : E} (he : es[k]? = some e) : tn (es.take (k + 1)) = tn (es.take k) ++ [(e.1.toNat, e.2.1.toNat)] := by
  rw [List.take_add_one, he]; simp [tn]
/-- sorted up to i -/
def sorted (N : Nat) (l : List (Nat × Nat)) (i : Nat) : List (List Nat) := (List.range N).map fun u => if u < i then nearS l u else nb l u
theorem sorted_zero (N : Nat) (l : List (Nat × Nat)) : sorted N l 0 = nears N l := by simp [sorted, nears]
theorem sorted_all (N : Nat) (l : List (Nat × Nat)) : sorted N l N = (List.range N).map (nearS l) := by
  apply List.map_congr_left
  intro u hu
  rw [if_pos (by simpa using hu)]
theorem sorted_get {N i : Nat} {l : List (Nat × Nat)} (hi : i < N) : (sorted N l i)[i]? = some (nb l i) := by simp [sorted, hi]
theorem sorted_succ {N i : Nat} {l : List (Nat × Nat)} (hi : i < N) : sorted N l (i + 1) = (sorted N l i).set i (nearS l i) := by
  apply List.ext_getElem?
  intro k
  simp only [sorted, List.getElem?_set, List.getElem?_map, List.length_map, List.length_range]
  by_cases hk : k < N
  · rw [List.getElem?_eq_getElem (by simpa using hk)]
    simp only [List.getElem_range, Option.map_some]
    by_cases h1 : i = k
    · subst h1; simp [hi]
    · rw [if_neg h1]
      by_cases h2 : k < i
      · rw [if_pos (by omega), if_pos h2]
      · rw [if_neg (by omega), if_neg h2]
  · rw [List.getElem?_eq_none (by simpa using hk)]
    have : i ≠ k := by omega
    simp [this]
theorem mem_nb {l : List (Nat × Nat)} {u v : Nat} (hl : ∀ e ∈ l, e.1 ≠ e.2) : u ∈ nb l v ↔ (v, u) ∈ l ∨ (u, v) ∈ l := by
  simp only [nb, List.mem_filterMap]
  constructor
  · rintro ⟨⟨a, b⟩, he, h⟩
    dsimp only at h
    split at h
    · rename_i h1; subst h1
      obtain rfl : b = u := by simpa using h
      exact .inl he
    · split at h
      · rename_i h2; subst h2
        obtain rfl : a = u := by simpa using h
        exact .inr he
      · simp at h
  · rintro (h | h)
    · exact ⟨(v, u), h, by simp⟩
    · refine ⟨(u, v), h, ?_⟩
      have := hl _ h
      dsimp only at this ⊢
      rw [if_neg this, if_pos rfl]
theorem mem_nearS {l : List (Nat × Nat)} {u v : Nat} : u ∈ nearS l v ↔ u ∈ nb l v := by simp [nearS, List.mem_mergeSort]
structure Good (N : Nat) (l : List (Nat × Nat)) : Prop where
  lt : ∀ e ∈ l, e.1 < e.2 ∧ e.2 < N
theorem RightG.good {n : Int} {es : List E} (h : RightG n es) : Good n.toNat (tn es) where
  lt e he := by
    obtain ⟨x, hx, rfl⟩ := List.mem_map.1 he
    obtain ⟨h1, h2, h3, -, -⟩ := h.ok x hx
    have := h.lo
    dsimp only
    omega
theorem Good.adj {N : Nat} {l : List (Nat × Nat)} (h : Good N l) : Adj N (nb l) where
  lt v hv u hu := by
    rcases (mem_nb (fun e he => by have := h.lt e he; omega)).1 hu with hu | hu
    · exact (h.lt _ hu).2
    · have := h.lt _ hu; dsimp only at this; omega
  sym v u hv hu := by
    rw [mem_nb (fun e he => by have := h.lt e he; omega)] at hu ⊢
    exact hu.symm
end Fil
end
section
namespace Go.Sl
open Go Go.RowKit
theorem made1 {z : Value} {z0 : Value} (hz : z.cells = #[z0]) (m : Nat) : (madeCells z.cells (m * 1)).toList = List.replicate m z0 := by
  rw [hz]
  apply List.ext_getElem?
  intro k
  simp only [madeCells, Nat.mul_one, Array.toList_map, Array.toList_range, List.getElem?_map, List.getElem?_replicate]
  by_cases hk : k < m
  · simp [hk, Nat.mod_one]
  · simp [hk]
def rowN (h : Value) (l : List Nat) : HP := rowHP h 3 1 l.length (nV l)
theorem rowN_snoc (h : Value) (l : List Nat) (x : Nat) : rowHP h 3 1 (l.length + 1) (nV l ++ [.int .i64 (x : Int)]) = rowN h (l ++ [x]) := by simp [rowN, nV]
end Go.Sl
namespace Go.Proofs.YtpajjnkmaebhcabGreat
open Go.RowKit Go.Sl Fil
set_option maxRecDepth 100000
set_option maxHeartbeats 8000000
set_option linter.unusedVariables false
set_option linter.unusedSimpArgs false
attribute [local irreducible] Code.wp wpList bodyPost wpQuiet Exit.then Exit.inBlock Post wpAnyH wpOp
theorem Near_ok (n : Int) (v : Value) (es : List E) (w : World) (hs : Shp v es.length) (hr : RO w No v (esV es)) (hR : RightG n es) :
    Calls Tryz.prog 55 #[.agg #[.int .i64 n, v]] w (Post w No fun r L' => ∃ hs : List Value, hs.length = n.toNat ∧ L' = [rowHP r 28 1 n.toNat hs, starHP (kids rowN hs ((List.range n.toNat).map (nearS (tn es))))]) := by
  have hR0 := right_iff.2 hR
  have hm : es.length < 4611686018427387904 := by have := hR.many; omega
  refine enter0 (vs := [_]) Tryz.func55 rfl Tryz.ntmps55 rfl ?_
  repeat' first
    | refine k_then ?_ | refine c_seq ?_ | refine c_region ?_ | refine s_nil ?_ | refine s_assign (by exact rfl) (by exact rfl) ?_ | refine s_ldk_box (by exact rfl) (by exact rfl) (by exact .head _) (by exact rfl) (by exact rfl) ?_ | refine o_box (by exact rfl) (by exact rfl) (fun b => ?_)
  refine s_call (by exact rfl) (by exact rfl) (fun w h => Right_ok n v es w hs (ro_old h hr) hm) ?_
  repeat' first
    | refine k_then ?_ | refine c_seq ?_ | refine c_region ?_ | refine s_nil ?_ | refine s_fa (by exact rfl) (by exact rfl) ?_ | refine s_ld_box (by exact rfl) (by exact rfl) (by exact .head _) (by exact rfl) ?_ | refine s_neq (by exact rfl) (by exact rfl) (by exact rfl) ?_ | refine c_skip ?_ | (refine c_cond_p (by exact rfl) (fun h => ?_) (fun h => ?_) <;> try (exfalso; omega))
  have hlo := hR.lo
  have hhi := hR.hi
  refine o_make (by exact rfl) (by exact rfl) (by exact rfl) (by omega) (by omega) fun vo hvo => ?_
  rw [made1 rfl]
  repeat' first
    | refine k_then ?_ | refine c_seq ?_ | refine c_region ?_ | refine s_nil ?_ | refine s_move (by exact rfl) (by exact rfl) ?_ | refine s_assign (by exact rfl) (by exact rfl) ?_ | refine s_fa (by exact rfl) (by exact rfl) ?_ | refine s_ld_box (by exact rfl) (by exact rfl) (by exact .tail _ (.head _)) (by exact rfl) ?_ | refine s_len (by exact rfl) (by exact rfl) (by assumption) ?_ | refine c_block ?_
  refine c_nils 3 1 n.toNat ?_
  refine c_loop (fun x : Nat × List Value => x.1 ≤ es.length ∧ x.2.length = n.toNat) (fun x => [(3, vo), (15, v), (16, .int .i64 (es.length : Int)), (17, .int .i64 (x.1 : Int))]) (fun x => [rowHP vo 28 1 n.toNat x.2, starHP (kids rowN x.2 (nears n.toNat (tn (es.take x.1))))]) (fun x => es.length - x.1) (0, List.replicate n.toNat (.slice none 0 0)) [1, 0] ⟨by omega, by simp⟩ ?_ ⟨rfl, rfl, rfl, rfl, trivial⟩ ?_
  · show _ = some [_, starHP (kids rowN _ (nears n.toNat []))]
    rw [nears_zero, kids_nils]
    rfl
  rintro ⟨k, hs0⟩ ⟨hk, hl0⟩
  dsimp only at hk hl0 ⊢
  by_cases hlt : k < es.length
  · obtain ⟨e, he⟩ : ∃ e, es[k]? = some e := ⟨_, List.getElem?_eq_getElem hlt⟩
    have hE := esV_at he
    obtain ⟨q1, q2, q3, -, -⟩ := hR.ok e (List.mem_of_getElem? he)
    have hsn := nears_snoc (N := n.toNat) (l := tn (es.take k)) (u := e.1.toNat) (v := e.2.1.toNat) (by omega) (by omega) (by omega)
    rw [← tn_take he] at hsn
    generalize hls : nears n.toNat (tn (es.take k)) = ls at *
    have hb : ∀ u, (nb (tn (es.take k)) u).length ≤ 4194304 := fun u => by
      have := nb_length (tn (es.take k)) u
      have h2 := hR.many
      simp only [tn, List.length_map, List.length_take] at this
      simp only [tn] at this ⊢
      omega
    repeat' first
      | refine k_then ?_ | refine c_seq ?_ | refine c_region ?_ | refine s_nil ?_ | refine s_lss (by exact rfl) (by exact rfl) (by exact rfl) ?_ | refine s_idx (by exact rfl) (by exact rfl) (by exact rfl) (by assumption) (by first | assumption | omega) ?_ | refine s_ldk_ro (by exact rfl) (by exact rfl) (by assumption) (by decide) (by assumption) (by exact rfl) ?_ | refine o_alloc (by exact rfl) (fun b => ?_) | refine c_block ?_ | refine c_skip ?_ | (refine c_cond_p (by exact rfl) (fun h => ?_) (fun h => ?_) <;> try (exfalso; omega))
    refine o_stk_box (i := 0) (us := eV e) (by exact rfl) (by exact rfl) (by exact rfl) (by exact rfl) (by exact rfl) (by simp [eV, Value.oneCell']) (by simp [Value.cells]) ?_
    repeat' first
      | refine k_then ?_ | refine c_seq ?_ | refine s_nil ?_
    refine c_cut (fun hs1 : List Value => hs1.length = n.toNat) (fun _ => [(5, .pointer (some ⟨b, 0, none⟩)), (3, vo), (15, v), (16, .int .i64 (es.length : Int)), (17, .int .i64 (k : Int))]) (fun hs1 => [boxHP b 37 (eV e), rowHP vo 28 1 n.toNat hs1, starHP (kids rowN hs1 (ls.set e.1.toNat ((nb (tn (es.take k)) e.1.toNat) ++ [e.2.1.toNat])))]) ?_ fun hs1 hl1 => ?_
    · obtain ⟨hd, hhd⟩ : ∃ hd, hs0[e.1.toNat * 1]? = some hd := ⟨_, List.getElem?_eq_getElem (by omega)⟩
      have hkid : (ls)[e.1.toNat]? = some (nb (tn (es.take k)) e.1.toNat) := by rw [← hls]; exact nears_get (by omega)
      refine c_take 2 e.1.toNat (by exact rfl) (kids_get (by simpa using hhd) hkid) ?_
      refine p_begin [(0, true), (1, true), (2, true), (3, true), (4, true), (5, true), (6, true), (8, true), (9, true), .rd 7 10, (11, false), (12, true), (13, false)] [boxHP b 37 (eV e)] (by kernel_rfl) ?_
      repeat' first
        | (refine p_at (by exact rfl) ?_
           first
            | refine t_move (by exact rfl) (by exact rfl) (by exact fun _ h => h.pick [1] (by exact rfl)) ?_ | refine t_fa (by exact rfl) (by exact rfl) (by exact fun _ h => h.pick [1] (by exact rfl)) ?_ | refine t_ld_box (by exact rfl) (by exact rfl) (by exact .head _) (by exact rfl) (by exact fun _ h => h.pick [1] (by exact rfl)) ?_ | refine t_idxi (by exact rfl) (by exact rfl) (by exact rfl) (by assumption) (by first | assumption | omega) (by exact fun _ h => h.pick [1] (by exact rfl)) ?_)
      refine p_rd ?_ ?_
      all_goals
        repeat' first
          | (refine p_at (by exact rfl) ?_
             first
              | refine r_ld_row (by exact rfl) (by exact rfl) (by exact .tail _ (.tail _ (.head _))) (by assumption) (by exact fun _ h => h.pick [1] (by exact rfl)) ?_)
        refine p_mk [_] (by exact rfl) rfl (by exact rfl) rfl ?_ ?_ (by simp) (fun w A h => h.pick [2] (by exact rfl)) (fun sx hsx => ?_)
        · simp [Value.cells]
        · simp
        repeat' first
          | (refine p_at (by exact rfl) ?_
             first
              | refine r_ld_row (by exact rfl) (by exact rfl) (by exact .tail _ (.tail _ (.tail _ (.head _)))) (by assumption) (by exact fun _ h => h.pick [2] (by exact rfl)) ?_)
        refine p_append_row (j := 1) (by exact rfl) rfl (by exact rfl) (by exact rfl) (by exact rfl) (by exact .head _) (by exact rfl) (by simp [Value.cells, Value.oneCell']) ?_ (fun w v h => h.pick [2] (by exact rfl)) (fun vk hvk => ?_)
        · have := hb e.1.toNat
          simp only [List.length_cons, List.length_nil]
          omega
        repeat' first
          | (refine p_at (by exact rfl) ?_
             first
              | refine t_idxi (by exact rfl) (by exact rfl) (by exact rfl) (by assumption) (by first | assumption | omega) (by exact fun _ h => h.pick [2] (by exact rfl)) ?_)
        refine p_st_row (j := 3) (by exact rfl) (by exact rfl) (by exact rfl) (by exact rfl) hvk.one (by omega) (fun w h => h.pick [2] (by exact rfl)) ?_
        repeat' first
          | refine p_nil ?_
        refine c_pick [1, 1, 1, 1] (by exact rfl) ?_
        have e1 : rowHP vk 3 1 ((nb (tn (es.take k)) e.1.toNat).length + 1) (nV (nb (tn (es.take k)) e.1.toNat) ++ [Value.int .i64 e.2.1]) = rowN vk ((nb (tn (es.take k)) e.1.toNat) ++ [e.2.1.toNat]) := by
          rw [show (e.2.1 : Int) = ((e.2.1.toNat : Nat) : Int) from by omega]
          exact rowN_snoc _ _ _
        refine c_give 2 e.1.toNat (by exact rfl) (by simp [kids, hl0, ← hls, nears]; omega) ?_
        refine cut_end (hs0.set e.1.toNat vk) [0, 0, 0] ?_ ⟨rfl, rfl, rfl, rfl, rfl, trivial⟩ (by simpa using hl0)
        rw [← kids_set (x := empHP), ← e1, Nat.mul_one]
        rfl
    repeat' first
      | refine k_then ?_
    refine c_cut (fun hs1 : List Value => hs1.length = n.toNat) (fun _ => [(5, .pointer (some ⟨b, 0, none⟩)), (3, vo), (15, v), (16, .int .i64 (es.length : Int)), (17, .int .i64 (k : Int))]) (fun hs1 => [boxHP b 37 (eV e), rowHP vo 28 1 n.toNat hs1, starHP (kids rowN hs1 ((ls.set e.1.toNat ((nb (tn (es.take k)) e.1.toNat) ++ [e.2.1.toNat])).set e.2.1.toNat ((nb (tn (es.take k)) e.2.1.toNat) ++ [e.1.toNat])))]) ?_ fun hs2 hl2 => ?_
    · obtain ⟨hd, hhd⟩ : ∃ hd, hs1[e.2.1.toNat * 1]? = some hd := ⟨_, List.getElem?_eq_getElem (by omega)⟩
      have hkid : (ls.set e.1.toNat ((nb (tn (es.take k)) e.1.toNat) ++ [e.2.1.toNat]))[e.2.1.toNat]? = some (nb (tn (es.take k)) e.2.1.toNat) := by rw [List.getElem?_set_ne (by omega), ← hls]; exact nears_get (by omega)
      refine c_take 2 e.2.1.toNat (by exact rfl) (kids_get (by simpa using hhd) hkid) ?_
      refine p_begin [(0, true), (1, true), (2, true), (3, true), (4, true), (5, true), (6, true), (8, true), (9, true), .rd 7 10, (11, false), (12, true), (13, false)] [boxHP b 37 (eV e)] (by kernel_rfl) ?_
      repeat' first
        | (refine p_at (by exact rfl) ?_
           first
            | refine t_move (by exact rfl) (by exact rfl) (by exact fun _ h => h.pick [1] (by exact rfl)) ?_ | refine t_fa (by exact rfl) (by exact rfl) (by exact fun _ h => h.pick [1] (by exact rfl)) ?_ | refine t_ld_box (by exact rfl) (by exact rfl) (by exact .head _) (by exact rfl) (by exact fun _ h => h.pick [1] (by exact rfl)) ?_ | refine t_idxi (by exact rfl) (by exact rfl) (by exact rfl) (by assumption) (by first | assumption | omega) (by exact fun _ h => h.pick [1] (by exact rfl)) ?_)
      refine p_rd ?_ ?_
      all_goals
        repeat' first
          | (refine p_at (by exact rfl) ?_
             first
              | refine r_ld_row (by exact rfl) (by exact rfl) (by exact .tail _ (.tail _ (.head _))) (by assumption) (by exact fun _ h => h.pick [1] (by exact rfl)) ?_)
        refine p_mk [_] (by exact rfl) rfl (by exact rfl) rfl ?_ ?_ (by simp) (fun w A h => h.pick [2] (by exact rfl)) (fun sx hsx => ?_)
        · simp [Value.cells]
        · simp
        repeat' first
          | (refine p_at (by exact rfl) ?_
             first
              | refine r_ld_row (by exact rfl) (by exact rfl) (by exact .tail _ (.tail _ (.tail _ (.head _)))) (by assumption) (by exact fun _ h => h.pick [2] (by exact rfl)) ?_)
        refine p_append_row (j := 1) (by exact rfl) rfl (by exact rfl) (by exact rfl) (by exact rfl) (by exact .head _) (by exact rfl) (by simp [Value.cells, Value.oneCell']) ?_ (fun w v h => h.pick [2] (by exact rfl)) (fun vk hvk => ?_)
        · have := hb e.2.1.toNat
          simp only [List.length_cons, List.length_nil]
          omega
        repeat' first
          | (refine p_at (by exact rfl) ?_
             first
              | refine t_idxi (by exact rfl) (by exact rfl) (by exact rfl) (by assumption) (by first | assumption | omega) (by exact fun _ h => h.pick [2] (by exact rfl)) ?_)
        refine p_st_row (j := 3) (by exact rfl) (by exact rfl) (by exact rfl) (by exact rfl) hvk.one (by omega) (fun w h => h.pick [2] (by exact rfl)) ?_
        repeat' first
          | refine p_nil ?_
        refine c_pick [1, 1, 1, 1] (by exact rfl) ?_
        have e1 : rowHP vk 3 1 ((nb (tn (es.take k)) e.2.1.toNat).length + 1) (nV (nb (tn (es.take k)) e.2.1.toNat) ++ [Value.int .i64 e.1]) = rowN vk ((nb (tn (es.take k)) e.2.1.toNat) ++ [e.1.toNat]) := by
          rw [show (e.1 : Int) = ((e.1.toNat : Nat) : Int) from by omega]
          exact rowN_snoc _ _ _
        refine c_give 2 e.2.1.toNat (by exact rfl) (by simp [kids, hl1, ← hls, nears]; omega) ?_
        refine cut_end (hs1.set e.2.1.toNat vk) [0, 0, 0] ?_ ⟨rfl, rfl, rfl, rfl, rfl, trivial⟩ (by simpa using hl1)
        rw [← kids_set (x := empHP), ← e1, Nat.mul_one]
        rfl
    repeat' first
      | refine k_then ?_ | refine c_region ?_ | refine s_nil ?_ | refine s_move (by exact rfl) (by exact rfl) ?_ | refine s_add (by exact rfl) (by exact rfl) (by exact rfl) (by omega) ?_ | refine k_blk ?_
    refine c_round (k + 1, hs2) [1, 1] (by rw [hsn]; rfl) (by exact ⟨rfl, rfl, rfl, rfl, trivial⟩) ⟨by omega, hl2⟩ (by dsimp only; omega)
  · repeat' first
      | refine k_then ?_ | refine c_seq ?_ | refine c_region ?_ | refine s_nil ?_ | refine s_move (by exact rfl) (by exact rfl) ?_ | refine s_lss (by exact rfl) (by exact rfl) (by exact rfl) ?_ | refine s_len (by exact rfl) (by exact rfl) (by assumption) ?_ | refine c_block ?_ | refine c_exit ?_ | refine k_then_exit ?_ | refine k_blk_eq ?_ | (refine c_cond_p (by exact rfl) (fun h => ?_) (fun h => ?_) <;> try (exfalso; omega))
    have hkl : k = es.length := by omega
    subst hkl
    rw [List.take_length]
    refine c_loop (fun i : Nat => i ≤ n.toNat) (fun i => [(3, vo), (48, vo), (49, .int .i64 (n.toNat : Int)), (50, .int .i64 (i : Int))]) (fun i => [rowHP vo 28 1 n.toNat hs0, starHP (kids rowN hs0 (sorted n.toNat (tn es) i))]) (fun i => n.toNat - i) 0 [0, 0] (Nat.zero_le _) (by rw [sorted_zero]; rfl) ⟨rfl, rfl, rfl, rfl, trivial⟩ ?_
    intro i hi
    by_cases hlt2 : i < n.toNat
    · obtain ⟨hd, hhd⟩ : ∃ hd, hs0[i * 1]? = some hd := ⟨_, List.getElem?_eq_getElem (by omega)⟩
      have hk1 : (kids rowN hs0 (sorted n.toNat (tn es) i))[i]? = some (rowN hd (nb (tn es) i)) := kids_get (by simpa using hhd) (sorted_get hlt2)
      repeat' first
        | refine k_then ?_ | refine c_seq ?_ | refine c_region ?_ | refine s_nil ?_ | refine s_move (by exact rfl) (by exact rfl) ?_ | refine s_assign (by exact rfl) (by exact rfl) ?_ | refine s_lss (by exact rfl) (by exact rfl) (by exact rfl) ?_ | refine s_idx (by exact rfl) (by exact rfl) (by exact rfl) (by assumption) (by first | assumption | omega) ?_ | refine s_ld_row (by exact rfl) (by exact rfl) (by exact .head _) (by assumption) ?_ | refine c_block ?_ | refine c_skip ?_ | (refine c_cond_p (by exact rfl) (fun h => ?_) (fun h => ?_) <;> try (exfalso; omega))
      refine c_take 1 i (by exact rfl) hk1 ?_
      refine s_lend [rowN hd (nb (tn es) i)] _ (by exact rfl) (by exact rfl) (by exact rfl) (fun w S h => nsort_row (sats_mem h.own (.head _)) (by have := nb_length (tn es) i; have h2 := hR.many; simp only [tn, List.length_map] at this; simp only [tn]; omega)) ?_
      rintro _ _ ⟨rfl, rfl⟩
      repeat' first
        | refine k_then ?_ | refine c_region ?_ | refine s_nil ?_ | refine s_move (by exact rfl) (by exact rfl) ?_ | refine s_add (by exact rfl) (by exact rfl) (by exact rfl) (by omega) ?_ | refine k_blk ?_
      have e1 : rowHP hd 3 1 (nb (tn es) i).length (nV ((nb (tn es) i).mergeSort fun x y => decide (x ≤ y))) = rowN hd (nearS (tn es) i) := by
        simp [rowN, nearS]
      refine c_give (L := [_, _]) 1 i (by exact rfl) (by rw [List.length_set, kids_length (by simp [sorted, hl0])]; simpa [sorted] using hlt2) ?_
      refine c_round (i + 1) [0, 0] ?_ (by exact ⟨rfl, rfl, rfl, rfl, trivial⟩) (by omega) (by omega)
      rw [sorted_succ hlt2, ← kids_set2 (x := empHP) (by simpa using hhd), ← e1]
      rfl
    · repeat' first
        | refine k_then ?_ | refine c_seq ?_ | refine c_region ?_ | refine s_nil ?_ | refine s_move (by exact rfl) (by exact rfl) ?_ | refine s_assign (by exact rfl) (by exact rfl) ?_ | refine s_lss (by exact rfl) (by exact rfl) (by exact rfl) ?_ | refine c_exit ?_ | refine c_ret ?_ | refine k_then_exit ?_ | refine k_blk_eq ?_ | (refine c_cond_p (by exact rfl) (fun h => ?_) (fun h => ?_) <;> try (exfalso; omega))
      obtain rfl : i = n.toNat := by omega
      refine ret1 [0, 0] rfl rfl rfl ⟨hs0, hl0, ?_⟩
      rw [sorted_all]
end Go.Proofs.YtpajjnkmaebhcabGreat
end
section
namespace Go.Sl
open Go Go.RowKit
def bV (l : List Bool) : List Value := l.map Value.bool
theorem bV_get {l : List Bool} {k : Nat} (h : k < l.length) : (bV l)[k * 1]? = some (.bool (l.getD k false)) := by
  simp [bV, h]
theorem nV_get {l : List Nat} {k : Nat} (h : k < l.length) : (nV l)[k * 1]? = some (.int .i64 ((l.getD k 0 : Nat) : Int)) := by
  simp [nV, h]
theorem bV_set (l : List Bool) (k : Nat) (b : Bool) : (bV l).set (k * 1) (.bool b) = bV (l.set k b) := by simp [bV, List.map_set]
theorem nV_set (l : List Nat) (k x : Nat) : (nV l).set (k * 1) (.int .i64 (x : Int)) = nV (l.set k x) := by simp [nV, List.map_set]
theorem iV_get {l : List Int} {k : Nat} (h : k < l.length) : (iV l)[k * 1]? = some (.int .i64 (l.getD k 0)) := by
  simp [iV, h]
theorem nV_iV (l : List Nat) : nV l = iV (l.map fun (k : Nat) => (k : Int)) := by simp [nV, iV]
end Go.Sl
namespace Go.Proofs.YtpajjnkmaebhcabGreat
open Go.RowKit Go.Sl Fil
theorem esV_snoc (l : List E) (e : E) : esV (l ++ [e]) = esV l ++ eV e := by simp [esV, List.flatMap_append]
end Go.Proofs.YtpajjnkmaebhcabGreat
end
section
namespace Go.Sl
open Go Go.RowKit
/-- rows that are read, by rows of numbers -/
structure ROs (w : World) (S : FS) (v : Value) (hs : List Value) (ls : List (List Nat)) : Prop where
  shp : Shp v ls.length
  len : hs.length = ls.length
  ro : RO w S v hs
  kid : ∀ (i : Nat) h l, hs[i]? = some h → ls[i]? = some l → Shp h l.length ∧ RO w S h (nV l)
theorem ros_own {w0 w : World} {S0 : FS} {L : List HP} {v : Value} {e : TypeId} {m : Nat} {hs : List Value} {ls : List (List Nat)} (h : St w0 S0 L w) (hL : rowHP v e 1 m hs ∈ L) (hm : m = ls.length) (hK : starHP (kids rowN hs ls) ∈ L) : ROs w No v hs ls := by
  obtain ⟨S, hsat⟩ := h.mem hL
  have hl : hs.length = m := by have := hsat.1; omega
  refine ⟨hm ▸ rowHP_shp hsat, by omega, RO.of_rd (rowHP_rd hsat), fun i x l h1 h2 => ?_⟩
  have hk : rowHP x 3 1 l.length (nV l) ∈ kids rowN hs ls := kids_mem (f := rowN) h1 h2
  obtain ⟨S, hsat⟩ := h.kid hK hk
  exact ⟨rowHP_shp hsat, RO.of_rd (rowHP_rd hsat)⟩
theorem ros_old {w0 w : World} {S0 : FS} {L : List HP} {v : Value} {hs : List Value} {ls : List (List Nat)} (h : St w0 S0 L w) (hr : ROs w0 S0 v hs ls) : ROs w No v hs ls :=
  ⟨hr.shp, hr.len, ro_old h hr.ro, fun i x l h1 h2 => ⟨(hr.kid i x l h1 h2).1, ro_old h (hr.kid i x l h1 h2).2⟩⟩
end Go.Sl
namespace Go.Proofs.YtpajjnkmaebhcabGreat
open Go.RowKit Go.Sl Fil
set_option maxRecDepth 100000
set_option maxHeartbeats 8000000
set_option linter.unusedVariables false
set_option linter.unusedSimpArgs false
attribute [local irreducible] Code.wp wpList bodyPost wpQuiet Exit.then Exit.inBlock Post wpAnyH wpOp
end Go.Proofs.YtpajjnkmaebhcabGreat
end
section
namespace Fil
def fillL {α : Type} (g : Nat → α) (d : α) (N i : Nat) : List α := (List.range N).map fun j => if j < i then g j else d
theorem fill_zero {α : Type} (g : Nat → α) (d : α) (N : Nat) : fillL g d N 0 = List.replicate N d := by
  simp [fillL, List.map_const']
theorem fillL_all {α : Type} (g : Nat → α) (d : α) (N : Nat) : fillL g d N N = (List.range N).map g := by
  apply List.map_congr_left
  intro u hu
  rw [if_pos (by simpa using hu)]
theorem fill_set {α : Type} (g : Nat → α) (d : α) {N i : Nat} (hi : i < N) : (fillL g d N i).set i (g i) = fillL g d N (i + 1) := by
  apply List.ext_getElem?
  intro k
  simp only [fillL, List.getElem?_set, List.getElem?_map, List.length_map, List.length_range]
  by_cases hk : k < N
  · rw [List.getElem?_eq_getElem (by simpa using hk)]
    simp only [List.getElem_range, Option.map_some]
    by_cases h1 : i = k
    · subst h1; simp [hi]
    · rw [if_neg h1]
      by_cases h2 : k < i
      · rw [if_pos h2, if_pos (by omega)]
      · rw [if_neg h2, if_neg (by omega)]
  · rw [List.getElem?_eq_none (by simpa using hk)]
    have : i ≠ k := by omega
    simp [this]
theorem countP_lt {α : Type} {p q : α → Bool} (hpq : ∀ x, p x = true → q x = true) : ∀ {l : List α} {x : α}, x ∈ l → p x = false → q x = true → l.countP p + 1 ≤ l.countP q
  | y :: l, x, hx, h1, h2 => by
    have mono : l.countP p ≤ l.countP q := List.countP_mono_left fun x _ h => hpq x h
    simp only [List.countP_cons]
    rcases List.mem_cons.1 hx with rfl | hx
    · rw [h1, h2]; simp; omega
    · have ih := countP_lt hpq hx h1 h2
      have : (if p y = true then 1 else 0) ≤ (if q y = true then 1 else 0) := by
        split
        · rename_i h; rw [if_pos (hpq y h)]; exact Nat.le_refl _
        · exact Nat.zero_le _
      omega
theorem Lev.lt {N : Nat} {A : Nat → List Nat} {o lab : Nat → Nat} (hA : Adj N A) (h : Lev N A o lab) : ∀ v, v < N → o v < N := by
  have down : ∀ k v, v < N → o v = k → ∀ j, j ≤ k → ∃ u, u < N ∧ o u = j := by
    intro k
    induction k with
    | zero => intro v hv hk j hj; exact ⟨v, hv, by omega⟩
    | succ k ih =>
      intro v hv hk j hj
      by_cases e : j = k + 1
      · exact ⟨v, hv, by omega⟩
      · obtain ⟨u, hu, hk'⟩ := h.up v k hv hk
        exact ih u (hA.lt v hv u hu) hk' j (by omega)
  intro v hv
  have cnt : ∀ j, j ≤ o v + 1 → j ≤ (List.range N).countP fun u => decide (o u < j) := by
    intro j
    induction j with
    | zero => intro _; exact Nat.zero_le _
    | succ j ih =>
      intro hj
      obtain ⟨u, hu, hoj⟩ := down (o v) v hv rfl j (by omega)
      have := countP_lt (p := fun u => decide (o u < j)) (q := fun u => decide (o u < j + 1)) (fun x hx => by simp at hx ⊢; omega) (List.mem_range.2 hu) (by simp [hoj]) (by simp [hoj])
      have := ih (by omega)
      omega
  have h1 := cnt (o v + 1) (Nat.le_refl _)
  have h2 := List.countP_le_length (l := List.range N) (p := fun u => decide (o u < o v + 1))
  rw [List.length_range] at h2
  omega
end Fil
end
section
namespace Fil
/-- the lists of those of the labels below i -/
def compsL (N i : Nat) (met : List Bool) (lab : Nat → Nat) : List (List Nat) := ((List.range i).filter fun v => lab v == v).map fun r => (List.range N).filter fun u => met.getD u false && lab u == r
theorem comps_upd {N i : Nat} {met met' : List Bool} {lab lab' : Nat → Nat} (h1 : ∀ u, met.getD u false = true → met'.getD u false = true ∧ lab' u = lab u) (h2 : ∀ u, met'.getD u false = true → met.getD u false = false → lab' u = i) (h3 : ∀ v, v < i → met.getD v false = true) : compsL N i met' lab' = compsL N i met lab := by
  have e1 : (List.range i).filter (fun v => lab' v == v) = (List.range i).filter fun v => lab v == v := by
    apply List.filter_congr
    intro v hv
    rw [(h1 v (h3 v (by simpa using hv))).2]
  rw [compsL, e1, compsL]
  apply List.map_congr_left
  intro r hr
  have hri : r < i := by
    have := (List.mem_filter.1 hr).1
    simpa using this
  apply List.filter_congr
  intro u _
  cases hm : met.getD u false
  · cases hm' : met'.getD u false
    · simp
    · have := h2 u hm' hm
      simp only [Bool.true_and, Bool.false_and, this]
      simp; omega
  · obtain ⟨h4, h5⟩ := h1 u hm
    rw [h4, h5]
theorem comps_next {N i : Nat} {met : List Bool} {lab : Nat → Nat} (h : lab i ≠ i) : compsL N (i + 1) met lab = compsL N i met lab := by
  have : (lab i == i) = false := by simpa using h
  rw [compsL, List.range_succ, List.filter_append]
  simp [this, compsL]
/-- a list of just those of label i, sorted -/
theorem sorted_of {N i : Nat} {met : List Bool} {lab : Nat → Nat} {part : List Nat} (hn : part.Nodup) (hp : ∀ u, u ∈ part ↔ u < N ∧ met.getD u false = true ∧ lab u = i) : part.mergeSort (fun x y => decide (x ≤ y)) = (List.range N).filter fun u => met.getD u false && lab u == i := by
  refine List.Perm.eq_of_pairwise (le := fun a b => a ≤ b) (fun a b _ _ h1 h2 => Nat.le_antisymm h1 h2) ?_ ?_ ?_
  · have := List.pairwise_mergeSort (le := fun (x y : Nat) => decide (x ≤ y)) (fun a b c h1 h2 => by simp at *; omega) (fun a b => by simp; omega) part
    exact this.imp fun h => by simpa using h
  · exact (List.pairwise_lt_range.imp fun h => Nat.le_of_lt h).filter _
  · refine (List.mergeSort_perm part _).trans ((List.perm_ext_iff_of_nodup hn (List.nodup_range.filter _)).2 fun u => ?_)
    rw [hp]
    simp
theorem comps_add {N i : Nat} {met : List Bool} {lab : Nat → Nat} {part : List Nat} (hi : lab i = i) (hn : part.Nodup) (hp : ∀ u, u ∈ part ↔ u < N ∧ met.getD u false = true ∧ lab u = i) : compsL N (i + 1) met lab = compsL N i met lab ++ [part.mergeSort fun x y => decide (x ≤ y)] := by
  rw [sorted_of hn hp, compsL, List.range_succ, List.filter_append]
  simp [hi, compsL]
/-- part: just those that were met from i on -/
structure Part (N i : Nat) (met : List Bool) (lab : Nat → Nat) (part : List Nat) : Prop where
  nodup : part.Nodup
  mem : ∀ u, u ∈ part ↔ u < N ∧ met.getD u false = true ∧ lab u = i
  le : ∀ u, met.getD u false = true → lab u ≤ i
theorem Part.start {N i : Nat} {met : List Bool} {lab : Nat → Nat} (hi : i < N) (hl : met.length = N) (hL : ∀ v, met.getD v false = true → lab v < i) : Part N i (met.set i true) (fun x => if x = i then i else lab x) [i] where
  nodup := by simp
  mem u := by
    rw [getD_set]
    by_cases e : u = i
    · subst e; simp [hi, hl]
    · have e' : ¬ i = u := fun h => e h.symm
      simp only [List.mem_singleton, e, e', false_and, if_false, false_iff]
      rintro ⟨h1, h2, h3⟩
      have := hL u h2
      omega
  le u hu := by
    rw [getD_set] at hu
    split
    · exact Nat.le_refl _
    · rename_i e
      rw [if_neg (by omega)] at hu
      exact Nat.le_of_lt (hL u hu)
theorem Part.new {N i u : Nat} {met : List Bool} {lab : Nat → Nat} {part : List Nat} (h : Part N i met lab part) (hu : u < N) (hl : met.length = N) (hm : met.getD u false = false) : Part N i (met.set u true) (fun x => if x = u then i else lab x) (part ++ [u]) where
  nodup := by
    refine List.nodup_append.2 ⟨h.nodup, by simp, ?_⟩
    intro a ha b hb e
    obtain rfl : b = u := by simpa using hb
    subst e
    have := ((h.mem a).1 ha).2.1
    rw [hm] at this; simp at this
  mem x := by
    rw [getD_set, List.mem_append, h.mem]
    by_cases e : x = u
    · subst e; simp [hu, hl]
    · have e' : ¬ u = x := fun h => e h.symm
      simp [e, e']
  le x hx := by
    rw [getD_set] at hx
    split
    · exact Nat.le_refl _
    · rename_i e
      rw [if_neg (by omega)] at hx
      exact h.le x hx
theorem comps_step {N i u : Nat} {met : List Bool} {lab : Nat → Nat} (hm : met.getD u false = false) (h3 : ∀ v, v < i → met.getD v false = true) : compsL N i (met.set u true) (fun x => if x = u then i else lab x) = compsL N i met lab := by
  refine comps_upd (fun x hx => ?_) (fun x hx hx' => ?_) h3
  · have : x ≠ u := fun e => by subst e; rw [hm] at hx; simp at hx
    refine ⟨?_, by simp [this]⟩
    rw [getD_set]
    split <;> first | rfl | exact hx
  · rw [getD_set] at hx
    split at hx
    · rename_i h; simp [h.1]
    · rw [hx'] at hx; simp at hx
theorem Part.length_le {N i : Nat} {met : List Bool} {lab : Nat → Nat} {part : List Nat} (h : Part N i met lab part) : part.length ≤ N := by
  have hp := (List.perm_ext_iff_of_nodup h.nodup (List.nodup_range.filter fun u => met.getD u false && lab u == i) (l₂ := (List.range N).filter fun u => met.getD u false && lab u == i)).2 fun u => by
    rw [h.mem]; simp
  have h1 := hp.length_eq
  have h2 := List.length_filter_le (fun u => met.getD u false && lab u == i) (List.range N)
  rw [List.length_range] at h2
  omega
theorem compsL_length (N i : Nat) (met : List Bool) (lab : Nat → Nat) : (compsL N i met lab).length ≤ i := by
  rw [compsL, List.length_map]
  have := List.length_filter_le (fun v => lab v == v) (List.range i)
  rwa [List.length_range] at this
end Fil
end
section
namespace Fil
theorem RightG.filter {n : Int} {es : List E} (h : RightG n es) (p : E → Bool) : RightG n (es.filter p) where
  lo := h.lo
  hi := h.hi
  many := Nat.le_trans (List.length_filter_le _ _) h.many
  ok e he := h.ok e (List.mem_filter.1 he).1
  sorted := h.sorted.filter _
/-- two ways of labelling are one -/
theorem Lev.lab_eq {N : Nat} {A : Nat → List Nat} {o o' lab lab' : Nat → Nat} (h : Lev N A o lab) (h' : Lev N A o' lab') : ∀ v, v < N → lab v = lab' v := by
  have key : ∀ {o o' lab lab' : Nat → Nat}, Lev N A o lab → Lev N A o' lab' → ∀ v, v < N → lab v ≤ lab' v := by
    intro o o' lab lab' h h' v hv
    have h1 := h'.conn v hv lab (fun w hw u hu => (h.edge w hw u hu).1)
    have h2 := h'.le v hv
    have h3 := h.le (lab' v) (by omega)
    omega
  intro v hv
  exact Nat.le_antisymm (key h h' v hv) (key h' h v hv)
end Fil
end
section
namespace Fil
def relaxL (l : List Nat) (e : Nat × Nat) : List Nat := (l.set e.1 (min (l.getD e.1 0) (l.getD e.2 0))).set e.2 (min (l.getD e.1 0) (l.getD e.2 0))
def rounds (f : List Nat → Nat × Nat → List Nat) (es : List (Nat × Nat)) : Nat → List Nat → List Nat
  | 0, l => l
  | k + 1, l => es.foldl f (rounds f es k l)
/-- what a step keeps and gives, said of values t: where R a b, an exact a gives an exact b -/
structure Relax (N : Nat) (f : List Nat → Nat × Nat → List Nat) (t : Nat → Nat) (es : List (Nat × Nat)) (R : Nat → Nat → Prop) : Prop where
  len : ∀ l e, (f l e).length = l.length
  ge : ∀ l, l.length = N → ∀ e ∈ es, (∀ v, v < N → t v ≤ l.getD v 0) → ∀ v, v < N → t v ≤ (f l e).getD v 0
  le : ∀ l e v, (f l e).getD v 0 ≤ l.getD v 0
  give : ∀ l, l.length = N → ∀ e ∈ es, (∀ v, v < N → t v ≤ l.getD v 0) → ∀ a b, e = (a, b) ∨ e = (b, a) → R a b → l.getD a 0 = t a → (f l e).getD b 0 = t b
theorem Relax.keep {N : Nat} {f : List Nat → Nat × Nat → List Nat} {t : Nat → Nat} {es : List (Nat × Nat)} {R : Nat → Nat → Prop} (h : Relax N f t es R) : ∀ (r : List (Nat × Nat)), (∀ e ∈ r, e ∈ es) → ∀ l, l.length = N → (∀ v, v < N → t v ≤ l.getD v 0) →
    (r.foldl f l).length = N ∧ (∀ v, v < N → t v ≤ (r.foldl f l).getD v 0) ∧ ∀ v, v < N → l.getD v 0 = t v → (r.foldl f l).getD v 0 = t v
  | [], _, l, hl, hg => ⟨hl, hg, fun _ _ h => h⟩
  | e :: r, hr, l, hl, hg => by
    have hg' := h.ge l hl e (hr e (by simp)) hg
    obtain ⟨h1, h2, h3⟩ := h.keep r (fun x hx => hr x (by simp [hx])) (f l e) (by rw [h.len, hl]) hg'
    refine ⟨h1, h2, fun v hv hx => h3 v hv ?_⟩
    have := hg' v hv
    have := h.le l e v
    omega
theorem Relax.gives {N : Nat} {f : List Nat → Nat × Nat → List Nat} {t : Nat → Nat} {es : List (Nat × Nat)} {R : Nat → Nat → Prop} (h : Relax N f t es R) {a b : Nat} (ha : a < N) (hb : b < N) (hR : R a b) : ∀ (r : List (Nat × Nat)), (∀ e ∈ r, e ∈ es) → ∀ l, l.length = N → (∀ v, v < N → t v ≤ l.getD v 0) → ((a, b) ∈ r ∨ (b, a) ∈ r) → l.getD a 0 = t a → (r.foldl f l).getD b 0 = t b
  | [], _, _, _, _, hm, _ => by simp at hm
  | e :: r, hr, l, hl, hg, hm, hx => by
    have hg' := h.ge l hl e (hr e (by simp)) hg
    have hl' : (f l e).length = N := by rw [h.len, hl]
    have hr' : ∀ x ∈ r, x ∈ es := fun x hx => hr x (by simp [hx])
    by_cases he : e = (a, b) ∨ e = (b, a)
    · exact (h.keep r hr' (f l e) hl' hg').2.2 b hb (h.give l hl e (hr e (by simp)) hg a b he hR hx)
    · refine h.gives ha hb hR r hr' (f l e) hl' hg' ?_ ?_
      · rcases hm with hm | hm
        · rcases List.mem_cons.1 hm with h1 | h1
          · exact absurd (.inl h1.symm) he
          · exact .inl h1
        · rcases List.mem_cons.1 hm with h1 | h1
          · exact absurd (.inr h1.symm) he
          · exact .inr h1
      · have := hg' a ha
        have := h.le l e a
        omega
theorem Relax.rounds {N : Nat} {f : List Nat → Nat × Nat → List Nat} {t o : Nat → Nat} {es : List (Nat × Nat)} {R : Nat → Nat → Prop} (h : Relax N f t es R) {l : List Nat} (hl : l.length = N) (hg : ∀ v, v < N → t v ≤ l.getD v 0) (h0 : ∀ v, v < N → o v = 0 → l.getD v 0 = t v)
    (hs : ∀ v k, v < N → o v = k + 1 → ∃ u, u < N ∧ o u = k ∧ R u v ∧ ((u, v) ∈ es ∨ (v, u) ∈ es)) : ∀ k, (Fil.rounds f es k l).length = N ∧ (∀ v, v < N → t v ≤ (Fil.rounds f es k l).getD v 0) ∧ ∀ v, v < N → o v ≤ k → (Fil.rounds f es k l).getD v 0 = t v
  | 0 => ⟨hl, hg, fun v hv hk => h0 v hv (by omega)⟩
  | k + 1 => by
    obtain ⟨h1, h2, h3⟩ := h.rounds hl hg h0 hs k
    obtain ⟨h4, h5, h6⟩ := h.keep es (fun _ h => h) _ h1 h2
    refine ⟨h4, h5, fun v hv hk => ?_⟩
    by_cases e : o v ≤ k
    · exact h6 v hv (h3 v hv e)
    · obtain ⟨u, hu, hok, hR, hm⟩ := hs v k hv (by omega)
      exact h.gives hu hv hR es (fun _ h => h) _ h1 h2 hm (h3 u hu (by omega))
theorem relaxL_at (l : List Nat) (a b v : Nat) (ha : a < l.length) (hb : b < l.length) : (relaxL l (a, b)).getD v 0 = if v = a ∨ v = b then min (l.getD a 0) (l.getD b 0) else l.getD v 0 := by
  simp only [relaxL, getD_set, List.length_set]
  by_cases h1 : b = v
  · subst h1; simp [hb]
  · by_cases h2 : a = v
    · subst h2; simp [h1, ha]
    · have h1' : ¬ v = b := fun e => h1 e.symm
      have h2' : ¬ v = a := fun e => h2 e.symm
      simp [h1, h2, h1', h2']
theorem relaxL_le (l : List Nat) (e : Nat × Nat) (v : Nat) : (relaxL l e).getD v 0 ≤ l.getD v 0 := by
  simp only [relaxL, getD_set, List.length_set]
  split
  · rename_i h; obtain ⟨rfl, _⟩ := h; exact Nat.min_le_right _ _
  · split
    · rename_i h; obtain ⟨rfl, _⟩ := h; exact Nat.min_le_left _ _
    · exact Nat.le_refl _
theorem Good.edge_mem {N : Nat} {es : List (Nat × Nat)} (h : Good N es) {a b : Nat} (he : (a, b) ∈ es) : b ∈ nb es a ∧ a ∈ nb es b := by
  have hl : ∀ e ∈ es, e.1 ≠ e.2 := fun e he => by have := h.lt e he; omega
  rw [mem_nb hl, mem_nb hl]
  exact ⟨.inl he, .inr he⟩
theorem relaxL_ok {N : Nat} {es : List (Nat × Nat)} {o lab : Nat → Nat} (hG : Good N es) (h : Lev N (nb es) o lab) : Relax N relaxL lab es fun _ _ => True where
  len l e := by simp [relaxL]
  le := relaxL_le
  ge l hl e he hg v hv := by
    obtain ⟨a, b⟩ := e
    have := hG.lt _ he
    dsimp only at this
    have ha := hg a (by omega)
    have hb := hg b (by omega)
    have hab := (h.edge a (by omega) b (hG.edge_mem he).1).1
    rw [relaxL_at l a b v (by omega) (by omega)]
    split
    · rename_i hv'
      rcases hv' with rfl | rfl <;> omega
    · exact hg v hv
  give l hl e he hg a b hab _ hx := by
    have key : ∀ x y, (x, y) ∈ es → ((x = a ∧ y = b) ∨ (x = b ∧ y = a)) → (relaxL l (x, y)).getD b 0 = lab b := by
      intro x y hxy hh
      have := hG.lt _ hxy
      dsimp only at this
      have h1 := hg x (by omega)
      have h2 := hg y (by omega)
      have h3 := (h.edge x (by omega) y (hG.edge_mem hxy).1).1
      rw [relaxL_at l x y b (by omega) (by omega)]
      rcases hh with ⟨rfl, rfl⟩ | ⟨rfl, rfl⟩
      · rw [if_pos (.inr rfl)]; omega
      · rw [if_pos (.inl rfl)]; omega
    rcases hab with rfl | rfl
    · exact key a b he (.inl ⟨rfl, rfl⟩)
    · exact key b a he (.inr ⟨rfl, rfl⟩)
theorem list_of_getD {N : Nat} {l : List Nat} {t : Nat → Nat} (hl : l.length = N) (h : ∀ v, v < N → l.getD v 0 = t v) : l = (List.range N).map t := by
  apply List.ext_getElem?
  intro k
  by_cases hk : k < N
  · have := h k hk
    rw [List.getElem?_eq_getElem (by omega)]
    simp only [List.getD_eq_getElem?_getD, List.getElem?_eq_getElem (show k < l.length by omega), Option.getD_some] at this
    simp [hk, this]
  · rw [List.getElem?_eq_none (by omega), List.getElem?_eq_none (by simp; omega)]
theorem Lev.steps {N : Nat} {es : List (Nat × Nat)} {o lab : Nat → Nat} (hG : Good N es) (h : Lev N (nb es) o lab) : ∀ v k, v < N → o v = k + 1 → ∃ u, u < N ∧ o u = k ∧ ((u, v) ∈ es ∨ (v, u) ∈ es) := by
  intro v k hv hk
  obtain ⟨u, hu, hou⟩ := h.up v k hv hk
  have hm := (mem_nb (fun e he => by have := hG.lt e he; omega)).1 hu
  exact ⟨u, hG.adj.lt v hv u hu, hou, hm.symm⟩
theorem ref_labels {N : Nat} {es : List (Nat × Nat)} {o lab : Nat → Nat} (hG : Good N es) (h : Lev N (nb es) o lab) : rounds relaxL es N (List.range N) = (List.range N).map lab := by
  have hgd : ∀ v, v < N → (List.range N).getD v 0 = v := fun v hv => by simp [hv]
  obtain ⟨h1, _, h3⟩ := (relaxL_ok hG h).rounds (o := o) (l := List.range N) (by simp) (fun v hv => by rw [hgd v hv]; exact h.le v hv) (fun v hv h0 => by rw [hgd v hv]; exact ((h.root v hv).1 h0).symm)
    (fun v k hv hk => (h.steps hG v k hv hk).imp fun u hu => ⟨hu.1, hu.2.1, trivial, hu.2.2⟩) N
  exact list_of_getD h1 fun v hv => h3 v hv (Nat.le_of_lt (h.lt hG.adj v hv))
end Fil
end
