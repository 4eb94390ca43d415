/- Of ColourFew: part 2: what the walks rest on, contracts of functions and plain lemmas; no condition but those that each states. -/
import Derived.Test.YtpajjnkmaebhcabCw1
import Derived.Maps.Keyed
import Derived.Maps.RangeRun
import Derived.Laws.Cover3
import Derived.Test.YtpajjnkmaebhcabProg
import Derived.Laws.StructEq
import Derived.Laws.Shifts
import Derived.Shelf.SortM.Plain
import Derived.Shelf.SortM.SortNone
import Derived.Shelf.SlGeneric
import Derived.Ground.SlgmProg
import Derived.Sort.OwnSortedInts
set_option linter.unusedVariables false
set_option linter.unusedSimpArgs false
section
set_option linter.unusedVariables false
set_option linter.unusedSimpArgs false
set_option linter.unusedSectionVars false
namespace Go.Sl
open Go Go.RowKit Go.Maps
open Go.ChangeMaps (setBlock)
section
variable {α β : Type} [DecidableEq α]
def getK (ks : List (α × β)) (a : α) : Option β := (ks.find? fun p => p.1 = a).map (·.2)
def putK (ks : List (α × β)) (a : α) (b : β) : List (α × β) := if a ∈ ks.map Prod.fst then ks.map (fun p => if p.1 = a then (a, b) else p) else ks ++ [(a, b)]
def delK (ks : List (α × β)) (a : α) : List (α × β) := ks.filter fun p => p.1 ≠ a
theorem getK_none {ks : List (α × β)} {a : α} (h : a ∉ ks.map Prod.fst) : getK ks a = none := by
  rw [getK, List.find?_eq_none.2, Option.map_none]
  intro p hp
  simp only [decide_eq_true_eq]
  exact fun e => h (List.mem_map.2 ⟨p, hp, e⟩)
theorem getK_some {ks : List (α × β)} {a : α} {b : β} (hn : (ks.map Prod.fst).Nodup) (h : (a, b) ∈ ks) : getK ks a = some b := by
  induction ks with
  | nil => simp at h
  | cons p ks ih =>
    rw [List.map_cons, List.nodup_cons] at hn
    rcases List.mem_cons.1 h with rfl | h
    · simp [getK]
    · have hne : p.1 ≠ a := fun e => hn.1 (by rw [e]; exact List.mem_map.2 ⟨(a, b), h, rfl⟩)
      have := ih hn.2 h
      simp only [getK, List.find?_cons, hne, decide_false] at this ⊢
      exact this
theorem putK_new {ks : List (α × β)} {a : α} {b : β} (h : a ∉ ks.map Prod.fst) : putK ks a b = ks ++ [(a, b)] := if_neg h
theorem putK_keys (ks : List (α × β)) (a : α) (b : β) : (putK ks a b).map Prod.fst = if a ∈ ks.map Prod.fst then ks.map Prod.fst else ks.map Prod.fst ++ [a] := by
  unfold putK
  split
  · rw [List.map_map]
    apply List.map_congr_left
    intro p _
    simp only [Function.comp_apply]
    split
    · rename_i h; exact h.symm
    · rfl
  · simp
theorem putK_nodup {ks : List (α × β)} {a : α} {b : β} (hn : (ks.map Prod.fst).Nodup) : ((putK ks a b).map Prod.fst).Nodup := by
  rw [putK_keys]
  split
  · exact hn
  · rename_i h
    exact List.nodup_append.2 ⟨hn, by simp, fun x hx y hy e => by
      obtain rfl : y = a := by simpa using hy
      exact h (e ▸ hx)⟩
theorem putK_ok {ks : List (α × β)} {a : α} {b : β} {ok : α → Prop} (h : ∀ p ∈ ks, ok p.1) (ha : ok a) : ∀ p ∈ putK ks a b, ok p.1 := by
  intro p hp
  have : p.1 ∈ (putK ks a b).map Prod.fst := List.mem_map.2 ⟨p, hp, rfl⟩
  rw [putK_keys] at this
  have hk : p.1 ∈ ks.map Prod.fst ∨ p.1 = a := by
    split at this
    · exact .inl this
    · simpa using this
  rcases hk with h1 | h1
  · obtain ⟨q, hq, e⟩ := List.mem_map.1 h1
    rw [← e]; exact h q hq
  · rw [h1]; exact ha
theorem delK_nodup {ks : List (α × β)} {a : α} (hn : (ks.map Prod.fst).Nodup) : ((delK ks a).map Prod.fst).Nodup := hn.sublist (List.filter_sublist.map _)
end
class MapTy (P : Program) (t : TypeId) (α : outParam Type) (β : outParam Type) (ek : outParam (α → Value)) (ev : outParam (β → Value)) (ok : outParam (α → Prop)) (z : outParam β) (k : outParam TypeId) : Prop where
  e : ∃ e, P.underlying t = some (.map k e) ∧ ∀ w, (zeroValue e).run P w = .ok (ev z) w
  keyed : Keyed P k
  key : ∀ a, ok a → ∃ l, keyOf P k (ek a) = some l
  inj : ∀ a b, ek a = ek b → a = b
def Ents {α β : Type} (ek : α → Value) (ev : β → Value) (es : Array MapEntry) (ks : List (α × β)) : Prop := es.toList.map (fun x => (x.key, x.val)) = ks.map fun p => (ek p.1, ev p.2)
section
variable {α β : Type} {ek : α → Value} {ev : β → Value} {ok : α → Prop}
theorem Ents.size {es : Array MapEntry} {ks : List (α × β)} (h : Ents ek ev es ks) : es.size = ks.length := by
  have := congrArg List.length h
  simpa using this
theorem Ents.at {es : Array MapEntry} {ks : List (α × β)} (h : Ents ek ev es ks) {i : Nat} {x : MapEntry} (hx : es.toList[i]? = some x) : ∃ p, ks[i]? = some p ∧ x.key = ek p.1 ∧ x.val = ev p.2 := by
  have e := congrArg (fun l => l[i]?) h
  simp only [List.getElem?_map, hx, Option.map_some] at e
  obtain ⟨p, hp, e⟩ := Option.map_eq_some_iff.1 e.symm
  simp only [Prod.mk.injEq] at e
  exact ⟨p, hp, e.1.symm, e.2.symm⟩
theorem Ents.mem {es : Array MapEntry} {ks : List (α × β)} (h : Ents ek ev es ks) {x : MapEntry} (hx : x ∈ es.toList) : ∃ p ∈ ks, x.key = ek p.1 ∧ x.val = ev p.2 := by
  obtain ⟨i, hi⟩ := List.mem_iff_getElem?.1 hx
  obtain ⟨p, h1, h2⟩ := h.at hi
  exact ⟨p, List.mem_of_getElem? h1, h2⟩
theorem Ents.mem' {es : Array MapEntry} {ks : List (α × β)} (h : Ents ek ev es ks) {p : α × β} (hp : p ∈ ks) : ∃ x ∈ es.toList, x.key = ek p.1 ∧ x.val = ev p.2 := by
  obtain ⟨i, hi⟩ := List.mem_iff_getElem?.1 hp
  have e := congrArg (fun l => l[i]?) h
  simp only [List.getElem?_map, hi, Option.map_some] at e
  obtain ⟨x, hx, e⟩ := Option.map_eq_some_iff.1 e
  simp only [Prod.mk.injEq] at e
  exact ⟨x, List.mem_of_getElem? hx, e.1, e.2⟩
/-- what a map reads as -/
def RdM (ek : α → Value) (ev : β → Value) (ok : α → Prop) (w : World) (v : Value) (ks : List (α × β)) : Prop :=
  (v = .map none ∧ ks = []) ∨ ∃ b es clock, v = .map (some b) ∧ w.heap[b]? = some (.map es clock) ∧ Ents ek ev es ks ∧ (ks.map Prod.fst).Nodup ∧ ∀ p ∈ ks, ok p.1
def RM (ek : α → Value) (ev : β → Value) (ok : α → Prop) (w : World) (S : FS) (v : Value) (ks : List (α × β)) : Prop := ∀ w' S', Mod w S w' S' → RdM ek ev ok w' v ks
def Stamped (es : Array MapEntry) (clock : Nat) : Prop := (es.toList.map (·.born)).Nodup ∧ ∀ x ∈ es.toList, x.born < clock
def mapHP (ek : α → Value) (ev : β → Value) (ok : α → Prop) (v : Value) (ks : List (α × β)) : HP where
  sat S w := (ks.map Prod.fst).Nodup ∧ (∀ p ∈ ks, ok p.1) ∧ ∃ b es clock, v = .map (some b) ∧ S b ∧ w.heap[b]? = some (.map es clock) ∧ Ents ek ev es ks ∧ Stamped es clock
  mono h h' := ⟨h'.1, h'.2.1, h'.2.2.imp fun b ⟨es, c, h1, h2, h3⟩ => ⟨es, c, h1, h _ h2, h3⟩⟩
  move h h' := ⟨h'.1, h'.2.1, h'.2.2.imp fun b ⟨es, c, h1, h2, h3, h4⟩ => ⟨es, c, h1, h2, (h _ h2 (Array.getElem?_eq_some_iff.1 h3).1).trans h3, h4⟩⟩
  bound h' := ⟨h'.1, h'.2.1, h'.2.2.imp fun b ⟨es, c, h1, h2, h3, h4⟩ => ⟨es, c, h1, ⟨h2, (Array.getElem?_eq_some_iff.1 h3).1⟩, h3, h4⟩⟩
theorem mapHP_rd {v : Value} {ks : List (α × β)} {S : FS} {w : World} (h : (mapHP ek ev ok v ks).sat S w) : RdM ek ev ok w v ks := by
  obtain ⟨h1, h2, b, es, c, h3, h4, h5, h6, _⟩ := h
  exact .inr ⟨b, es, c, h3, h5, h6, h1, h2⟩
/-- a map, or none -/
def mapHP? (ek : α → Value) (ev : β → Value) (ok : α → Prop) (v : Value) : Option (List (α × β)) → HP
  | none => { sat := fun _ _ => v = .map none, mono := fun _ h => h, move := fun _ h => h, bound := fun h => h }
  | some ks => mapHP ek ev ok v ks
/-- a map that is ranged over: what is left, and the entry at hand -/
def rangeHP (ek : α → Value) (ev : β → Value) (ok : α → Prop) (v it : Value) (ks left : List (α × β)) (cur : Option (α × β)) : HP where
  sat S w := (ks.map Prod.fst).Nodup ∧ (∀ p ∈ ks, ok p.1) ∧ ∃ b r es clock seen, v = .map (some b) ∧ it = .pointer (some ⟨r, 0, none⟩) ∧ b ≠ r ∧ (S b ∧ S r) ∧ (w.heap[b]? = some (.map es clock) ∧ w.heap[r]? = some (.mapIter (some b) clock seen clock)) ∧ Ents ek ev es ks ∧ Stamped es clock ∧ Ents ek ev (leftOf es seen) left ∧ ∀ p, cur = some p → ∃ x ∈ es.toList, (∃ s : Array Nat, seen = s.push x.born) ∧ x.key = ek p.1 ∧ x.val = ev p.2
  mono h h' := ⟨h'.1, h'.2.1, h'.2.2.imp fun b ⟨r, es, c, s, h1, h2, h3, h4, h5⟩ => ⟨r, es, c, s, h1, h2, h3, ⟨h _ h4.1, h _ h4.2⟩, h5⟩⟩
  move h h' := ⟨h'.1, h'.2.1, h'.2.2.imp fun b ⟨r, es, c, s, h1, h2, h3, h4, h5, h6⟩ => ⟨r, es, c, s, h1, h2, h3, h4, ⟨(h _ h4.1 (Array.getElem?_eq_some_iff.1 h5.1).1).trans h5.1, (h _ h4.2 (Array.getElem?_eq_some_iff.1 h5.2).1).trans h5.2⟩, h6⟩⟩
  bound h' := ⟨h'.1, h'.2.1, h'.2.2.imp fun b ⟨r, es, c, s, h1, h2, h3, h4, h5, h6⟩ => ⟨r, es, c, s, h1, h2, h3, ⟨⟨h4.1, (Array.getElem?_eq_some_iff.1 h5.1).1⟩, ⟨h4.2, (Array.getElem?_eq_some_iff.1 h5.2).1⟩⟩, h5, h6⟩⟩
end
section
variable {P : Program} {w0 : World} {S0 : FS} {n : Nat} {F : List (Nat × Value)} {L : List HP} {o : Oper} {rest : List Oper} {ops : Array Oper} {Q : Exit → Act → World → Prop} {d : Nat} {v : Value} {α β : Type} {ek : α → Value} {ev : β → Value} {ok : α → Prop} {z : β}
theorem RM.of_rd {v : Value} {ks : List (α × β)} (h : RdM ek ev ok w0 v ks) : RM ek ev ok w0 (fun _ => False) v ks := by
  intro w S hm
  rcases h with h | ⟨b, es, c, h1, h2, h3⟩
  · exact .inl h
  · exact .inr ⟨b, es, c, h1, by rw [hm.keep b (Array.getElem?_eq_some_iff.1 h2).1 (fun h => h)]; exact h2, h3⟩
theorem find_ents {w : World} {k : TypeId} {es : Array MapEntry} {ks : List (α × β)} {a : α} (K : Keyed P k) (hk : ∀ a, ok a → ∃ l, keyOf P k (ek a) = some l) (hi : ∀ a b, ek a = ek b → a = b) (he : Ents ek ev es ks) (hok : ∀ p ∈ ks, ok p.1) (ha : ok a) :
    ((Instr.findKey k (ek a) es.toList).run P w = .ok none w ∧ a ∉ ks.map Prod.fst) ∨ ∃ (j : Nat) (x : MapEntry) (b : β), (Instr.findKey k (ek a) es.toList).run P w = .ok (some (j, x.val)) w ∧ es.toList[j]? = some x ∧ ks[j]? = some (a, b) ∧ x.key = ek a ∧ x.val = ev b := by
  obtain ⟨l, hl⟩ := hk a ha
  rcases K.find w hl es.toList (fun x hx => by
    obtain ⟨p, hp, e1, _⟩ := he.mem hx
    rw [e1]; exact hk p.1 (hok p hp)) with ⟨h1, h2⟩ | ⟨j, x, h1, h2, h3⟩
  · refine .inl ⟨h1, fun hm => ?_⟩
    obtain ⟨p, hp, e⟩ := List.mem_map.1 hm
    obtain ⟨x, hx, e1, _⟩ := he.mem' hp
    exact h2 x hx (by rw [e1, e])
  · obtain ⟨p, hp, e1, e2⟩ := he.at h2
    have : p.1 = a := hi _ _ (by rw [← e1, h3])
    refine .inr ⟨j, x, p.2, h1, h2, ?_, h3, e2⟩
    rw [hp, ← this]
variable [DecidableEq α]
theorem run_look {w : World} {t k : TypeId} {v : Value} {ks : List (α × β)} {a : α} (T : MapTy P t α β ek ev ok z k) (hr : RdM ek ev ok w v ks) (ha : ok a) (c : Bool) : (Instr.lookup t v (ek a) c).run P w = .ok (if c then .tuple #[ev ((getK ks a).getD z), .bool (getK ks a).isSome] else ev ((getK ks a).getD z)) w := by
  obtain ⟨e, ht, hz⟩ := T.e
  obtain ⟨l, hl⟩ := T.key a ha
  rcases hr with ⟨rfl, rfl⟩ | ⟨b, es, clock, rfl, hb, he, hn, hok⟩
  · have h1 : (Instr.findKey k (ek a) []).run P w = .ok none w := by
      rcases T.keyed.find w hl [] (by simp) with ⟨h1, _⟩ | ⟨j, x, _, h2, _⟩
      · exact h1
      · simp at h2
    simp [Instr.lookup, run_underlying ht, T.keyed.check w _ hl, h1, hz, Result.andThen, getK]
  · rcases find_ents (w := w) T.keyed T.key T.inj he hok ha with ⟨h1, h2⟩ | ⟨j, x, y, h1, h2, h3, h4, h5⟩
    · simp [Instr.lookup, run_underlying ht, MapKept.run_getObj_map hb, T.keyed.check w _ hl, h1, hz, Result.andThen, getK_none h2]
    · have := getK_some hn (List.mem_of_getElem? h3)
      simp [Instr.lookup, run_underlying ht, MapKept.run_getObj_map hb, T.keyed.check w _ hl, h1, Result.andThen, this, h5]
theorem q_look_of {x y : Operand} {t k : TypeId} {a : α} {s ka : Value} {ks : List (α × β)} [T : MapTy P t α β ek ev ok z k] (hrd : ∀ w, St w0 S0 L w → RdM ek ev ok w s ks) (ho : o.op = .lookup t x y false) (hx : Sl.ev F x = some s) (hy : Sl.ev F y = some ka) (hka : ka = ek a) (ha : ok a) : R1 P w0 S0 n F L o (ev ((getK ks a).getD z)) :=
  q_of_run fun a' hf w hs => by
    have := run_look (P := P) (w := w) T (hrd w hs) ha false
    rw [← hka] at this
    simp [execOp, ho, hf.eval hx, hf.eval hy, this]
theorem q_look {x y : Operand} {t k : TypeId} {a : α} {b : β} {s ka : Value} {ks : List (α × β)} [T : MapTy P t α β ek ev ok z k] (ho : o.op = .lookup t x y false) (hx : Sl.ev F x = some s) (hy : Sl.ev F y = some ka) (hL : mapHP ek ev ok s ks ∈ L) (hka : ka = ek a) (hv : (getK ks a).getD z = b) (ha : ok a) : R1 P w0 S0 n F L o (ev b) :=
  hv ▸ q_look_of (fun w hs => (hs.mem hL).elim fun _ h => mapHP_rd h) ho hx hy hka ha
theorem q_look_kid {x y : Operand} {t k : TypeId} {a : α} {b : β} {s ka : Value} {ks : List (α × β)} {Ks : List HP} [T : MapTy P t α β ek ev ok z k] (ho : o.op = .lookup t x y false) (hx : Sl.ev F x = some s) (hy : Sl.ev F y = some ka) (hK : mapHP? ek ev ok s (some ks) ∈ Ks) (hL : starHP Ks ∈ L) (hka : ka = ek a) (hv : (getK ks a).getD z = b) (ha : ok a) : R1 P w0 S0 n F L o (ev b) :=
  hv ▸ q_look_of (fun w hs => (hs.kid hL hK).elim fun _ h => mapHP_rd h) ho hx hy hka ha
theorem run_lenm {w : World} {t k : TypeId} {v : Value} {ks : List (α × β)} (T : MapTy P t α β ek ev ok z k) (hr : RdM ek ev ok w v ks) (ty : TypeId) : (Builtin.len_ #[t] ty #[v]).run P w = .ok (.int .i64 (ks.length : Int)) w := by
  obtain ⟨e, ht, hz⟩ := T.e
  rcases hr with ⟨rfl, rfl⟩ | ⟨b, es, clock, rfl, hb, he, hn, hok⟩
  · simp [Builtin.len_, run_under ht, goInt]
  · simp [Builtin.len_, run_under ht, MapKept.run_getObj_map hb, Result.andThen, goInt, he.size]
theorem q_lenm_of {x : Operand} {t k : TypeId} {s : Value} {ks : List (α × β)} [T : MapTy P t α β ek ev ok z k] (hrd : ∀ w, St w0 S0 L w → RdM ek ev ok w s ks) (ho : o.op = .call { callee := .builtin .len, args := #[x], argTypes := #[t] }) (hx : Sl.ev F x = some s) : R1 P w0 S0 n F L o (.int .i64 (ks.length : Int)) :=
  q_of_run fun a' hf w hs => by
    have := run_lenm (P := P) (w := w) T (hrd w hs) o.type
    simp [execOp, ho, hf.eval hx, resolve, invoke, builtin, this]
theorem q_lenm_kid {x : Operand} {t k : TypeId} {s : Value} {ks : List (α × β)} {Ks : List HP} [T : MapTy P t α β ek ev ok z k] (ho : o.op = .call { callee := .builtin .len, args := #[x], argTypes := #[t] }) (hx : Sl.ev F x = some s) (hK : mapHP? ek ev ok s (some ks) ∈ Ks) (hL : starHP Ks ∈ L) : R1 P w0 S0 n F L o (.int .i64 (ks.length : Int)) :=
  q_lenm_of (fun w hs => (hs.kid hL hK).elim fun _ h => mapHP_rd h) ho hx
theorem l_makeMap {R : Act → World → Prop} {t k : TypeId} [T : MapTy P t α β ek ev ok z k] (ho : o.op = .makeMap t none) (hd : o.dst = some d) (hn : Nat.blt d n = true)
    (h : ∀ b, Reach w0 S0 n ((d, .map (some b)) :: F) (mapHP ek ev ok (.map (some b)) [] :: L) R) : Reach w0 S0 n F L (fun a w => o.wp P a w R Q) := by
  refine l_loud fun a hf w hs => ⟨_, _, by simp only [execOp, ho, Option.map_none, run_makeMap, Sem.run_bind, Result.andThen_ok, Sem.run_pure]; rfl, .inl ⟨_, rfl, _, _, by rw [hd]; exact hf.put hn, ?_, h w.heap.size⟩⟩
  refine hs.push (M := [_]) (mod_alloc w _) ⟨fun k => w.heap.size ≤ k, fun _ => False, fun k hk => hk, fun k hk => hk.elim, fun k _ hk => hk, ⟨by simp, by simp, w.heap.size, #[], 0, rfl, Nat.le_refl _, by simpa using heap_alloc_new w (.map #[] 0), rfl, by simp [Stamped]⟩, trivial⟩
theorem mod_setBlock {w : World} {S : FS} {b : Nat} {x : Obj} (hb : S b) : Mod w S (setBlock w b x) S :=
  ⟨rfl, rfl, rfl, Nat.le_refl _, by simp [setBlock], fun k hk hn => by
    have hne : b ≠ k := fun e => hn (e ▸ hb)
    simp [setBlock, Array.getElem?_setIfInBounds_ne hne], fun k h => .inl h⟩
theorem setBlock_at {w : World} {b : Nat} {x y : Obj} (h : w.heap[b]? = some y) : (setBlock w b x).heap[b]? = some x := by
  have hlt := (Array.getElem?_eq_some_iff.1 h).1
  simp [setBlock, hlt]
theorem setBlock_ne {w : World} {b c : Nat} {x : Obj} (h : b ≠ c) : (setBlock w b x).heap[c]? = w.heap[c]? := by
  simp [setBlock, Array.getElem?_setIfInBounds_ne h]
theorem Ents.put {es : Array MapEntry} {ks : List (α × β)} {j : Nat} {a : α} {b b0 : β} (he : Ents ek ev es ks) (hn : (ks.map Prod.fst).Nodup) (hj : ks[j]? = some (a, b0)) (hx : ∀ x, es.toList[j]? = some x → x.key = ek a) : Ents ek ev (es.modify j fun e => { e with key := ek a, val := ev b }) (putK ks a b) := by
  have hmem : a ∈ ks.map Prod.fst := List.mem_map.2 ⟨(a, b0), List.mem_of_getElem? hj, rfl⟩
  rw [putK, if_pos hmem]
  apply List.ext_getElem?
  intro i
  have e := congrArg (fun l => l[i]?) he
  simp only [List.getElem?_map, Array.toList_modify, List.getElem?_modify] at e ⊢
  cases hk : ks[i]? with
  | none =>
    rw [hk, Option.map_none, Option.map_eq_none_iff] at e
    rw [e]
    simp
  | some p =>
    rw [hk, Option.map_some] at e
    obtain ⟨x, hx1, e⟩ := Option.map_eq_some_iff.1 e
    rw [hx1]
    by_cases hij : j = i
    · subst hij
      rw [hj] at hk
      obtain rfl : (a, b0) = p := by simpa using hk
      simp
    · have hne : p.1 ≠ a := fun e1 => by
        have h1 : (ks.map Prod.fst)[i]? = some a := by simp [hk, e1]
        have h2 : (ks.map Prod.fst)[j]? = some a := by simp [hj]
        obtain ⟨l1, g1⟩ := List.getElem?_eq_some_iff.1 h1
        obtain ⟨l2, g2⟩ := List.getElem?_eq_some_iff.1 h2
        rcases Nat.lt_or_gt_of_ne hij with h | h
        · exact List.pairwise_iff_getElem.1 hn j i l2 l1 h (by rw [g1, g2])
        · exact List.pairwise_iff_getElem.1 hn i j l1 l2 h (by rw [g1, g2])
      simp [hij, hne, e]
theorem run_mapup {w : World} {t k : TypeId} {v : Value} {ks : List (α × β)} {a : α} {b : β} {S : FS} (T : MapTy P t α β ek ev ok z k) (h : (mapHP ek ev ok v ks).sat S w) (ha : ok a) :
    ∃ w', (Instr.mapUpdate t v (ek a) (ev b)).run P w = .ok () w' ∧ Mod w S w' S ∧ (mapHP ek ev ok v (putK ks a b)).sat S w' := by
  obtain ⟨e, ht, hz⟩ := T.e
  obtain ⟨l, hl⟩ := T.key a ha
  obtain ⟨hn, hok, g, es, clock, rfl, hS, hb, he, hst⟩ := h
  rcases find_ents (w := w) T.keyed T.key T.inj he hok ha with ⟨h1, h2⟩ | ⟨j, x, y, h1, h2, h3, h4, h5⟩
  · refine ⟨setBlock w g (.map (es.push ⟨ek a, ev b, clock⟩) (clock + 1)), ?_, mod_setBlock hS, putK_nodup hn, putK_ok hok ha, g, _, _, rfl, hS, setBlock_at hb, ?_, ?_⟩
    · simp [Instr.mapUpdate, run_underlying ht, MapKept.run_getObj_map hb, T.keyed.check w false hl, h1, MapKept.run_setObj_map _ hb, Result.andThen, setBlock]
    · rw [putK_new h2]
      simp only [Ents, Array.toList_push, List.map_append, List.map_cons, List.map_nil]
      rw [he]
    · refine ⟨?_, fun x hx => ?_⟩
      · rw [Array.toList_push, List.map_append]
        refine List.nodup_append.2 ⟨hst.1, by simp, fun p hp q hq e => ?_⟩
        obtain rfl : q = clock := by simpa using hq
        obtain ⟨x, hx, rfl⟩ := List.mem_map.1 hp
        have := hst.2 x hx
        omega
      · rw [Array.toList_push, List.mem_append] at hx
        rcases hx with hx | hx
        · have := hst.2 x hx; omega
        · obtain rfl := List.mem_singleton.1 hx
          exact Nat.lt_succ_self _
  · have hjs : es[j]? = some x := by simpa using h2
    refine ⟨setBlock w g (.map (es.modify j fun e => { e with key := ek a, val := ev b }) clock), ?_, mod_setBlock hS, putK_nodup hn, putK_ok hok ha, g, _, _, rfl, hS, setBlock_at hb, ?_, ?_⟩
    · simp [Instr.mapUpdate, run_underlying ht, MapKept.run_getObj_map hb, T.keyed.check w false hl, h1, hjs, h4, T.keyed.stays w hl, MapKept.run_setObj_map _ hb, Result.andThen, setBlock]
    · exact he.put hn h3 fun x' hx' => by rw [h2] at hx'; obtain rfl : x = x' := (by simpa using hx'); exact h4
    · have hborn : (es.modify j fun e => { e with key := ek a, val := ev b }).toList.map (·.born) = es.toList.map (·.born) := by
        apply List.ext_getElem?
        intro i
        simp only [List.getElem?_map, Array.toList_modify, List.getElem?_modify]
        cases es.toList[i]? with
        | none => rfl
        | some x => by_cases hij : j = i <;> simp [hij]
      refine ⟨by rw [hborn]; exact hst.1, fun x hx => ?_⟩
      have : x.born ∈ es.toList.map (·.born) := by rw [← hborn]; exact List.mem_map.2 ⟨x, hx, rfl⟩
      obtain ⟨y, hy, e⟩ := List.mem_map.1 this
      rw [← e]; exact hst.2 y hy
theorem l_mapup {R : Act → World → Prop} {m x y : Operand} {t k : TypeId} {i : Nat} {s ka va : Value} {a : α} {b : β} {ks : List (α × β)} [T : MapTy P t α β ek ev ok z k] (ho : o.op = .mapUpdate t m x y) (hd : o.dst = none) (hm : Sl.ev F m = some s) (hx : Sl.ev F x = some ka) (hy : Sl.ev F y = some va) (hL : L[i]? = some (mapHP ek ev ok s ks)) (hka : ka = ek a) (hva : va = ev b) (ha : ok a)
    (h : Reach w0 S0 n F (L.set i (mapHP ek ev ok s (putK ks a b))) R) : Reach w0 S0 n F L (fun a w => o.wp P a w R Q) := by
  subst hka hva
  refine l_loud fun a' hf w hs => ?_
  obtain ⟨S, hsat⟩ := hs.mem (List.mem_of_getElem? hL)
  obtain ⟨w', hr, hmd, hsat'⟩ := run_mapup (P := P) (b := b) T hsat ha
  refine ⟨_, _, by simp only [execOp, ho, hf.eval hm, hf.eval hx, hf.eval hy, Sem.run_bind, hr, Result.andThen_ok, Sem.run_pure]; rfl, .inr ⟨rfl, _, hd, ?_, h⟩⟩
  refine hs.step hL fun S2 hsat2 => ?_
  obtain ⟨w2, hr2, hmd2, hsat2'⟩ := run_mapup (P := P) (b := b) T hsat2 ha
  rw [hr] at hr2
  obtain rfl : w' = w2 := by simpa using hr2
  exact ⟨S2, hmd2, hsat2'⟩
theorem delK_at {ks : List (α × β)} {j : Nat} {a : α} {b : β} (hn : (ks.map Prod.fst).Nodup) (hj : ks[j]? = some (a, b)) : delK ks a = ks.eraseIdx j := by
  induction ks generalizing j with
  | nil => simp at hj
  | cons p ks ih =>
    rw [List.map_cons, List.nodup_cons] at hn
    cases j with
    | zero =>
      obtain rfl : p = (a, b) := by simpa using hj
      have : ∀ q ∈ ks, q.1 ≠ a := fun q hq e => hn.1 (List.mem_map.2 ⟨q, hq, e⟩)
      rw [delK, List.filter_cons_of_neg (by simp), List.filter_eq_self.2 (fun q hq => by simpa using this q hq), List.eraseIdx_cons_zero]
    | succ j =>
      have hj' : ks[j]? = some (a, b) := by simpa using hj
      have hne : p.1 ≠ a := fun e => hn.1 (e ▸ List.mem_map.2 ⟨(a, b), List.mem_of_getElem? hj', rfl⟩)
      rw [delK, List.filter_cons_of_pos (by simpa using hne), List.eraseIdx_cons_succ, ← ih hn.2 hj']
      rfl
theorem delK_none {ks : List (α × β)} {a : α} (h : a ∉ ks.map Prod.fst) : delK ks a = ks :=
  List.filter_eq_self.2 fun p hp => by simpa using fun e => h (List.mem_map.2 ⟨p, hp, e⟩)
theorem run_del {w : World} {t k : TypeId} {v : Value} {ks : List (α × β)} {a : α} {S : FS} (T : MapTy P t α β ek ev ok z k) (h : (mapHP ek ev ok v ks).sat S w) (ha : ok a) (ty : TypeId) :
    ∃ w', (Builtin.delete_ #[t, k] ty #[v, ek a]).run P w = .ok (.tuple #[]) w' ∧ Mod w S w' S ∧ (mapHP ek ev ok v (delK ks a)).sat S w' := by
  obtain ⟨e, ht, hz⟩ := T.e
  obtain ⟨l, hl⟩ := T.key a ha
  obtain ⟨hn, hok, g, es, clock, rfl, hS, hb, he, hst⟩ := h
  have hok' : ∀ p ∈ delK ks a, ok p.1 := fun p hp => hok p (List.mem_filter.1 hp).1
  rcases find_ents (w := w) T.keyed T.key T.inj he hok ha with ⟨h1, h2⟩ | ⟨j, x, y, h1, h2, h3, h4, h5⟩
  · refine ⟨setBlock w g (.map es clock), ?_, mod_setBlock hS, delK_nodup hn, hok', g, _, _, rfl, hS, setBlock_at hb, by rw [delK_none h2]; exact he, hst⟩
    simp [Builtin.delete_, run_underlying ht, MapKept.run_getObj_map hb, T.keyed.check w _ hl, h1, MapKept.run_setObj_map _ hb, Result.andThen, setBlock]
  · have hjs : j < es.size := by simpa using (List.getElem?_eq_some_iff.1 h2).1
    have hsub : (es.eraseIdxIfInBounds j).toList = es.toList.eraseIdx j := by
      unfold Array.eraseIdxIfInBounds
      rw [dif_pos hjs]
      simp
    refine ⟨setBlock w g (.map (es.eraseIdxIfInBounds j) clock), ?_, mod_setBlock hS, delK_nodup hn, hok', g, _, _, rfl, hS, setBlock_at hb, ?_, ?_⟩
    · simp [Builtin.delete_, run_underlying ht, MapKept.run_getObj_map hb, T.keyed.check w _ hl, h1, MapKept.run_setObj_map _ hb, Result.andThen, setBlock]
    · rw [delK_at hn h3, Ents, hsub]
      have hme : ∀ {γ δ : Type} (f : γ → δ) (l : List γ) (i : Nat), (l.eraseIdx i).map f = (l.map f).eraseIdx i := by
        intro γ δ f l
        induction l with
        | nil => intro i; rfl
        | cons x l ih => intro i; cases i with
          | zero => rfl
          | succ i => simp [ih]
      rw [hme, hme, he]
    · refine ⟨?_, fun x hx => hst.2 x ?_⟩
      · rw [hsub]
        exact hst.1.sublist ((List.eraseIdx_sublist _ _).map _)
      · rw [hsub] at hx
        exact (List.eraseIdx_sublist _ _).subset hx
theorem l_del {R : Act → World → Prop} {m x : Operand} {t k : TypeId} {i : Nat} {s ka : Value} {a : α} {ks : List (α × β)} [T : MapTy P t α β ek ev ok z k] (ho : o.op = .call { callee := .builtin .delete, args := #[m, x], argTypes := #[t, k] }) (hd : o.dst = none) (hm : Sl.ev F m = some s) (hx : Sl.ev F x = some ka) (hL : L[i]? = some (mapHP ek ev ok s ks)) (hka : ka = ek a) (ha : ok a)
    (h : Reach w0 S0 n F (L.set i (mapHP ek ev ok s (delK ks a))) R) : Reach w0 S0 n F L (fun a w => o.wp P a w R Q) := by
  subst hka
  refine l_loud fun a' hf w hs => ?_
  obtain ⟨S, hsat⟩ := hs.mem (List.mem_of_getElem? hL)
  obtain ⟨w', hr, hmd, hsat'⟩ := run_del (P := P) T hsat ha o.type
  refine ⟨_, _, by simp only [execOp, ho, resolve, invoke, builtin, Sem.run_bind, Sem.run_pure, Result.andThen_ok, List.map_toArray, List.map_cons, List.map_nil, hf.eval hm, hf.eval hx, hr]; rfl, .inl ⟨_, rfl, F, _, by rw [hd]; exact hf, ?_, h⟩⟩
  refine hs.step hL fun S2 hsat2 => ?_
  obtain ⟨w2, hr2, hmd2, hsat2'⟩ := run_del (P := P) T hsat2 ha o.type
  rw [hr] at hr2
  obtain rfl : w' = w2 := by simpa using hr2
  exact ⟨S2, hmd2, hsat2'⟩
theorem leftOf_none (es : Array MapEntry) : leftOf es #[] = es := by
  simp [leftOf]
theorem l_range {R : Act → World → Prop} {x : Operand} {t k : TypeId} {i : Nat} {s : Value} {ks : List (α × β)} [T : MapTy P t α β ek ev ok z k] (ho : o.op = .range t x) (hd : o.dst = some d) (hn : Nat.blt d n = true) (hx : Sl.ev F x = some s) (hL : L[i]? = some (mapHP ek ev ok s ks))
    (h : ∀ it, Reach w0 S0 n ((d, it) :: F) (L.set i (rangeHP ek ev ok s it ks ks none)) R) : Reach w0 S0 n F L (fun a w => o.wp P a w R Q) := by
  obtain ⟨e, ht, hz⟩ := T.e
  refine l_loud fun a' hf w hs => ?_
  obtain ⟨S, hsat⟩ := hs.mem (List.mem_of_getElem? hL)
  obtain ⟨hnd, hok, b, es, clock, rfl, hS, hb, he, hst⟩ := hsat
  have hrun : (Instr.range t (.map (some b))).run P w = .ok (.pointer (some ⟨w.heap.size, 0, none⟩)) (w.alloc (.mapIter (some b) clock #[] clock)) := by
    simp [Instr.range, run_underlying ht, MapKept.run_getObj_map hb, Result.andThen]
  refine ⟨_, _, by simp only [execOp, ho, hf.eval hx, Sem.run_bind, hrun, Result.andThen_ok, Sem.run_pure]; rfl, .inl ⟨_, rfl, _, _, by rw [hd]; exact hf.put hn, ?_, h (.pointer (some ⟨w.heap.size, 0, none⟩))⟩⟩
  refine hs.step hL fun S2 hsat2 => ?_
  obtain ⟨_, _, b2, es2, clock2, hv, hS2, hb2, he2, hst2⟩ := hsat2
  obtain rfl : b = b2 := by simpa using hv
  have hlt := (Array.getElem?_eq_some_iff.1 hb2).1
  have hold : ∀ k, k < w.heap.size → (w.alloc (.mapIter (some b) clock #[] clock)).heap[k]? = w.heap[k]? := fun k hk => heap_alloc_old w _ hk
  rw [hb] at hb2
  obtain ⟨rfl, rfl⟩ : es = es2 ∧ clock = clock2 := by simpa using hb2
  refine ⟨fun k => S2 k ∨ k = w.heap.size, ⟨rfl, rfl, rfl, Nat.le_refl _, (mod_alloc w _).size, fun k hk _ => hold k hk, fun k hk => hk.imp id fun h => by omega⟩, hnd, hok, b, w.heap.size, es, clock, #[], rfl, rfl, by omega, ⟨.inl hS2, .inr rfl⟩, ⟨(hold b hlt).trans hb, by simpa using heap_alloc_new w (.mapIter (some b) clock #[] clock)⟩, he, hst, by rw [leftOf_none]; exact he, fun p hp => by simp at hp⟩
theorem left_split {es : Array MapEntry} {seen : Array Nat} {left : List (α × β)} {x : MapEntry} (he : Ents ek ev (leftOf es seen) left) (hx : x ∈ (leftOf es seen).toList) (hn : (es.toList.map (·.born)).Nodup) :
    ∃ l1 p l2, left = l1 ++ p :: l2 ∧ x.key = ek p.1 ∧ x.val = ev p.2 ∧ Ents ek ev (leftOf es (seen.push x.born)) (l1 ++ l2) := by
  have hn' : ((leftOf es seen).toList.map (·.born)).Nodup := by
    have : (leftOf es seen).toList = es.toList.filter (fun e => !seen.contains e.born) := by simp [leftOf]
    rw [this]
    exact hn.sublist (List.filter_sublist.map _)
  have hpush : (leftOf es (seen.push x.born)).toList = (leftOf es seen).toList.filter fun e => e.born ≠ x.born := by
    simp only [leftOf, Array.toList_filter, List.filter_filter]
    apply List.filter_congr
    intro e _
    rw [contains_push]
    by_cases h : e.born = x.born <;> simp [h]
  unfold Ents at he ⊢
  generalize (leftOf es seen).toList = l at *
  obtain ⟨a1, a2, rfl⟩ := List.append_of_mem hx
  rw [hpush]
  rw [List.map_append, List.map_cons] at hn'
  obtain ⟨n1, n2, n3⟩ := List.nodup_append.1 hn'
  have f1 : a1.filter (fun e => e.born ≠ x.born) = a1 := List.filter_eq_self.2 fun e he => by
    simpa using n3 e.born (List.mem_map.2 ⟨e, he, rfl⟩) x.born (by simp)
  have f2 : a2.filter (fun e => e.born ≠ x.born) = a2 := List.filter_eq_self.2 fun e he => by
    have := (List.nodup_cons.1 n2).1
    simp only [decide_eq_true_eq]
    exact fun h => this (by rw [← h]; exact List.mem_map.2 ⟨e, he, rfl⟩)
  rw [List.filter_append, List.filter_cons_of_neg (by simp), f1, f2]
  rw [List.map_append, List.map_cons] at he
  obtain ⟨l1, l', rfl, e1, e2⟩ := List.append_eq_map_iff.1 he
  obtain ⟨p, l2, rfl, e3, e4⟩ := List.map_eq_cons_iff.1 e2
  simp only [Prod.mk.injEq] at e3
  refine ⟨l1, p, l2, rfl, e3.1.symm, e3.2.symm, ?_⟩
  rw [List.map_append, List.map_append, e1, e4]
theorem l_next {R : Act → World → Prop} {x : Operand} {i : Nat} {s it : Value} {ks left : List (α × β)} {cur : Option (α × β)} (ho : o.op = .next x false) (hd : o.dst = some d) (hn : Nat.blt d n = true) (hx : Sl.ev F x = some it) (hL : L[i]? = some (rangeHP ek ev ok s it ks left cur))
    (h1 : left = [] → Reach w0 S0 n ((d, .tuple #[.bool false]) :: F) L R)
    (h2 : ∀ l1 p l2, left = l1 ++ p :: l2 → Reach w0 S0 n ((d, .tuple #[.bool true, ek p.1, ev p.2]) :: F) (L.set i (rangeHP ek ev ok s it ks (l1 ++ l2) (some p))) R) : Reach w0 S0 n F L (fun a w => o.wp P a w R Q) := by
  refine l_loud fun a' hf w hs => ?_
  obtain ⟨S, hsat⟩ := hs.mem (List.mem_of_getElem? hL)
  obtain ⟨hnd, hok, b, r, es, clock, seen, rfl, rfl, hbr, ⟨hSb, hSr⟩, ⟨hb, hr⟩, he, hst, hl, hc⟩ := hsat
  rcases run_next_at (P := P) w o.type r b clock clock seen es clock hr hb hst.2 (Nat.le_refl _) with ⟨h0, hrun⟩ | ⟨e, hem, w1, hw1, hrun⟩
  · have hl0 : left = [] := List.eq_nil_of_length_eq_zero (by rw [← hl.size]; exact h0)
    exact ⟨_, _, by simp only [execOp, ho, hf.eval hx, Sem.run_bind, hrun, Result.andThen_ok, Sem.run_pure]; rfl, .inl ⟨_, rfl, _, _, by rw [hd]; exact hf.put hn, hs, h1 hl0⟩⟩
  · obtain ⟨l1, p, l2, hsp, k1, k2, hl'⟩ := left_split hl hem hst.1
    have hc2 := h2 l1 p l2 hsp
    rw [← k1, ← k2] at hc2
    refine ⟨_, _, by simp only [execOp, ho, hf.eval hx, Sem.run_bind, hrun, Result.andThen_ok, Sem.run_pure]; rfl, .inl ⟨_, rfl, _, _, by rw [hd]; exact hf.put hn, ?_, hc2⟩⟩
    have hs1 : St w0 S0 L w1 := by
      rcases hw1 with rfl | rfl
      · exact hs
      · exact hs.drew
    have hheap : w1.heap = w.heap := by rcases hw1 with rfl | rfl <;> rfl
    refine hs1.step hL fun S2 hsat2 => ?_
    obtain ⟨_, _, b2, r2, es2, clock2, seen2, hv, hi, _, ⟨hSb2, hSr2⟩, ⟨hb2, hr2⟩, _⟩ := hsat2
    obtain rfl : b = b2 := by simpa using hv
    obtain rfl : r = r2 := by simpa using hi
    refine ⟨S2, mod_setBlock hSr2, hnd, hok, b, r, es, clock, seen.push e.born, rfl, rfl, hbr, ⟨hSb2, hSr2⟩, ⟨?_, setBlock_at hr2⟩, he, hst, hl', fun q hq => ?_⟩
    · rw [setBlock_ne (Ne.symm hbr), hheap]; exact hb
    · obtain rfl : p = q := by simpa using hq
      exact ⟨e, (mem_left hem).1, ⟨seen, rfl⟩, k1, k2⟩
theorem q_entry {x : Operand} {s it : Value} {ks left : List (α × β)} {p : α × β} (ho : o.op = .entry x) (hx : Sl.ev F x = some it) (hL : rangeHP ek ev ok s it ks left (some p) ∈ L) : R1 P w0 S0 n F L o (.tuple #[ek p.1, ev p.2]) :=
  q_of_run fun a' hf w hs => by
    obtain ⟨S, hsat⟩ := hs.mem hL
    obtain ⟨hnd, hok, b, r, es, clock, seen, rfl, rfl, hbr, ⟨hSb, hSr⟩, ⟨hb, hr⟩, he, hst, hl, hc⟩ := hsat
    obtain ⟨e, hem, ⟨s0, rfl⟩, k1, k2⟩ := hc p rfl
    have := run_entry_at (P := P) w r b clock s0 es clock e hr hb hem hst.1
    rw [k1, k2] at this
    simp [execOp, ho, hf.eval hx, this]
theorem St.unrange {w : World} {i : Nat} {s it : Value} {ks left : List (α × β)} {cur : Option (α × β)} (hL : L[i]? = some (rangeHP ek ev ok s it ks left cur)) (h : St w0 S0 L w) : St w0 S0 (L.set i (mapHP ek ev ok s ks)) w :=
  h.step hL fun S hsat => by
    obtain ⟨hnd, hok, b, r, es, clock, seen, rfl, rfl, hbr, ⟨hSb, hSr⟩, ⟨hb, hr⟩, he, hst, hl, hc⟩ := hsat
    exact ⟨S, Mod.refl w S, hnd, hok, b, es, clock, rfl, hSb, hb, he, hst⟩
theorem c_unrange {i : Nat} {s it : Value} {ks left : List (α × β)} {cur : Option (α × β)} {R : Act → World → Prop} (hL : L[i]? = some (rangeHP ek ev ok s it ks left cur)) (h : Reach w0 S0 n F (L.set i (mapHP ek ev ok s ks)) R) : Reach w0 S0 n F L R := h.conv fun _ => St.unrange hL
section
variable {ty : TypeId} {ps : String} {af : Array Edge}
theorem o_makeMap {t k : TypeId} [T : MapTy P t α β ek ev ok z k] (hn : Nat.blt d n = true) (h : ∀ b, Reach w0 S0 n ((d, .map (some b)) :: F) (mapHP ek ev ok (.map (some b)) [] :: L) (wpList P ops Q rest)) : Reach w0 S0 n F L (wpList P ops Q (⟨some d, .makeMap t none, ty, ps, af, none⟩ :: rest)) := s_of_l rfl fun R hR => l_makeMap (z := z) rfl rfl hn fun b => (h b).imp hR
theorem o_mapup {m x y : Operand} {t k : TypeId} {i : Nat} {s ka va : Value} {ks : List (α × β)} [T : MapTy P t α β ek ev ok z k] (a : α) (b : β) (hm : Sl.ev F m = some s) (hx : Sl.ev F x = some ka) (hy : Sl.ev F y = some va) (hL : L[i]? = some (mapHP ek ev ok s ks)) (hka : ka = ek a) (hva : va = ev b) (ha : ok a)
    (h : Reach w0 S0 n F (L.set i (mapHP ek ev ok s (putK ks a b))) (wpList P ops Q rest)) : Reach w0 S0 n F L (wpList P ops Q (⟨none, .mapUpdate t m x y, ty, ps, af, none⟩ :: rest)) := s_of_l rfl fun R hR => l_mapup (z := z) rfl rfl hm hx hy hL hka hva ha (h.imp hR)
theorem o_del {m x : Operand} {t k : TypeId} {i : Nat} {s ka : Value} {ks : List (α × β)} [T : MapTy P t α β ek ev ok z k] (a : α) (hm : Sl.ev F m = some s) (hx : Sl.ev F x = some ka) (hL : L[i]? = some (mapHP ek ev ok s ks)) (hka : ka = ek a) (ha : ok a)
    (h : Reach w0 S0 n F (L.set i (mapHP ek ev ok s (delK ks a))) (wpList P ops Q rest)) : Reach w0 S0 n F L (wpList P ops Q (⟨none, .call { callee := .builtin .delete, args := #[m, x], argTypes := #[t, k] }, ty, ps, af, none⟩ :: rest)) := s_of_l rfl fun R hR => l_del (z := z) rfl rfl hm hx hL hka ha (h.imp hR)
theorem o_range {x : Operand} {t k : TypeId} {i : Nat} {s : Value} {ks : List (α × β)} [T : MapTy P t α β ek ev ok z k] (hn : Nat.blt d n = true) (hx : Sl.ev F x = some s) (hL : L[i]? = some (mapHP ek ev ok s ks))
    (h : ∀ it, Reach w0 S0 n ((d, it) :: F) (L.set i (rangeHP ek ev ok s it ks ks none)) (wpList P ops Q rest)) : Reach w0 S0 n F L (wpList P ops Q (⟨some d, .range t x, ty, ps, af, none⟩ :: rest)) := s_of_l rfl fun R hR => l_range (z := z) rfl rfl hn hx hL fun it => (h it).imp hR
theorem o_next {x : Operand} {i : Nat} {s it : Value} {ks left : List (α × β)} {cur : Option (α × β)} (hn : Nat.blt d n = true) (hx : Sl.ev F x = some it) (hL : L[i]? = some (rangeHP ek ev ok s it ks left cur))
    (h1 : left = [] → Reach w0 S0 n ((d, .tuple #[.bool false]) :: F) L (wpList P ops Q rest))
    (h2 : ∀ l1 p l2, left = l1 ++ p :: l2 → Reach w0 S0 n ((d, .tuple #[.bool true, ek p.1, ev p.2]) :: F) (L.set i (rangeHP ek ev ok s it ks (l1 ++ l2) (some p))) (wpList P ops Q rest)) : Reach w0 S0 n F L (wpList P ops Q (⟨some d, .next x false, ty, ps, af, none⟩ :: rest)) := s_of_l rfl fun R hR => l_next rfl rfl hn hx hL (fun e => (h1 e).imp hR) fun l1 p l2 e => (h2 l1 p l2 e).imp hR
end
end
abbrev okI (i : Int) : Prop := -9223372036854775808 ≤ i ∧ i ≤ 9223372036854775807
abbrev ekI (i : Int) : Value := .int .i64 i
theorem wf_i64 {i : Int} (h : okI i) : (Lit.int .i64 i).wf = true := by
  obtain ⟨h1, h2⟩ := h
  simp only [Lit.wf, IntKind.min, IntKind.max, IntKind.signed, IntKind.bits]
  simp
  omega
theorem mapTy_int {P : Program} {t k e : TypeId} {β : Type} {ev : β → Value} {z : β} (ht : P.underlying t = some (.map k e)) (hk : P.underlying k = some (.int .i64)) (hz : ∀ w, (zeroValue e).run P w = .ok (ev z) w) : MapTy P t Int β ekI ev okI z k where
  e := ⟨e, ht, hz⟩
  keyed := int_keyed hk
  key i hi := ⟨_, keyOf_int_mk hk (wf_i64 hi)⟩
  inj a b h := by simpa using h
def setN (l : List Nat) : List (Int × Bool) := l.map fun u : Nat => ((u : Int), true)
theorem setN_length (l : List Nat) : (setN l).length = l.length := by simp [setN]
theorem setN_keys (l : List Nat) : (setN l).map Prod.fst = l.map fun u : Nat => (u : Int) := by simp [setN]
theorem setN_mem {l : List Nat} {u : Nat} : (u : Int) ∈ (setN l).map Prod.fst ↔ u ∈ l := by
  rw [setN_keys, List.mem_map]
  exact ⟨fun ⟨a, h1, h2⟩ => by rwa [show u = a by omega], fun h => ⟨u, h, rfl⟩⟩
theorem getK_setN (l : List Nat) (u : Nat) : (getK (setN l) (u : Int)).getD false = decide (u ∈ l) := by
  unfold getK
  cases h : (setN l).find? fun p => decide (p.1 = (u : Int)) with
  | none =>
    rw [List.find?_eq_none] at h
    refine (decide_eq_false fun hu => ?_).symm
    exact h ((u : Int), true) (List.mem_map.2 ⟨u, hu, rfl⟩) (by simp)
  | some p =>
    have h1 := List.mem_of_find?_eq_some h
    have h2 := List.find?_some h
    obtain ⟨a, ha, rfl⟩ := List.mem_map.1 h1
    simp only [decide_eq_true_eq] at h2
    obtain rfl : a = u := by omega
    simp [ha]
theorem putK_setN {l : List Nat} {u : Nat} (h : u ∉ l) : putK (setN l) (u : Int) true = setN (l ++ [u]) := by
  rw [putK_new (fun h' => h (setN_mem.1 h')), setN, setN, List.map_append]
  rfl
theorem putK_setN_old {l : List Nat} {u : Nat} (h : u ∈ l) : putK (setN l) (u : Int) true = setN l := by
  rw [putK, if_pos (setN_mem.2 h)]
  simp only [setN, List.map_map]
  apply List.map_congr_left
  intro a _
  simp only [Function.comp_apply]
  split
  · rename_i e; rw [e]
  · rfl
theorem delK_setN (l : List Nat) (u : Nat) : delK (setN l) (u : Int) = setN (l.filter fun a => a ≠ u) := by
  simp only [delK, setN, List.filter_map]
  congr 1
  apply List.filter_congr
  intro a _
  simp only [Function.comp_apply]
  exact decide_eq_decide.2 (not_congr (by omega))
/-- a set of numbers, or none -/
def mapK (h : Value) (o : Option (List Nat)) : HP := mapHP? ekI Value.bool okI h (o.map setN)
section
variable {P : Program} {w0 : World} {S0 : FS} {n : Nat} {F : List (Nat × Value)} {L : List HP}
theorem sats_triv {w : World} : ∀ {Ks : List HP} {S : FS}, (∀ A ∈ Ks, ∀ S, A.sat S w) → sats Ks S w
  | [], _, _ => trivial
  | A :: Ks, S, h => ⟨fun _ => False, S, fun _ h => h.elim, fun _ h => h, fun _ h => h.elim, h A (.head _) _, sats_triv fun B hB => h B (.tail _ hB)⟩
theorem c_starof {R : Act → World → Prop} (Ks : List HP) (hK : ∀ A ∈ Ks, ∀ S w, A.sat S w) (h : Reach w0 S0 n F (starHP Ks :: L) R) : Reach w0 S0 n F L R :=
  h.conv fun w hs => by
    obtain ⟨S, hm, hl⟩ := hs
    exact ⟨S, hm, fun _ => False, S, fun _ h => h.elim, fun _ h => h, fun _ h => h.elim, sats_triv (fun A hA S => hK A hA S w), hl⟩
theorem c_nilmaps {R : Act → World → Prop} (m : Nat) (h : Reach w0 S0 n F (starHP (kids mapK (List.replicate m (.map none)) (List.replicate m none)) :: L) R) : Reach w0 S0 n F L R :=
  c_starof _ (fun A hA S w => by
    rw [kids_nils] at hA
    obtain rfl := (List.mem_replicate.1 hA).2
    rfl) h
/-- what sets are read as -/
structure RMs (w : World) (S : FS) (v : Value) (hs : List Value) (N : Nat) (A : Nat → Option (List Nat)) : Prop where
  shp : Shp v N
  len : hs.length = N
  ro : RO w S v hs
  none : ∀ i : Nat, i < N → A i = none → hs[i]? = some (.map none)
  some : ∀ i : Nat, ∀ l, i < N → A i = some l → ∃ b, hs[i]? = some (.map (some b)) ∧ RM ekI Value.bool okI w S (.map (some b)) (setN l)
end
theorem kids_put {α : Type} {f : Value → α → HP} {hs : List Value} {ls : List α} {k : Nat} {h : Value} {l : α} : (kids f hs ls).set k (f h l) = kids f (hs.set k h) (ls.set k l) := by
  rw [← kids_set (x := empHP), List.set_set]
theorem kids_put2 {α : Type} {f : Value → α → HP} {hs : List Value} {ls : List α} {k : Nat} {h : Value} {l : α} (hk : hs[k]? = some h) : (kids f hs ls).set k (f h l) = kids f hs (ls.set k l) := by
  rw [← kids_set2 (x := empHP) hk, List.set_set]
theorem setN_split {lf : List Nat} {l1 l2 : List (Int × Bool)} {p : Int × Bool} (h : setN lf = l1 ++ p :: l2) : ∃ (a1 : List Nat) (u : Nat) (a2 : List Nat), lf = a1 ++ u :: a2 ∧ p = ((u : Int), true) ∧ l1 ++ l2 = setN (a1 ++ a2) := by
  obtain ⟨a1, b, rfl, e1, e2⟩ := List.map_eq_append_iff.1 h
  obtain ⟨u, a2, rfl, e3, e4⟩ := List.map_eq_cons_iff.1 e2
  exact ⟨a1, u, a2, rfl, e3.symm, by rw [setN, List.map_append, e1, e4]⟩
end Go.Sl
end
section
set_option linter.unusedVariables false
set_option linter.unusedSimpArgs false
namespace Go.Sl
open Go Go.RowKit
section
variable {P : Program} {w0 : World} {S0 : FS} {n : Nat} {F : List (Nat × Value)} {L Lk : List HP} {Q : Exit → Act → World → Prop}
def cutQ {X : Type} (w0 : World) (S0 : FS) (n : Nat) (I : X → Prop) (IF : X → List (Nat × Value)) (IL : X → List HP) (Q : Exit → Act → World → Prop) : Exit → Act → World → Prop
  | .normal, a, w => ∃ x, I x ∧ Fr (IF x) n a ∧ St w0 S0 (IL x) w
  | e, a, w => Q e a w
instance {X : Type} {I : X → Prop} {IF : X → List (Nat × Value)} {IL : X → List HP} [T : PO Q] : PO (cutQ w0 S0 n I IF IL Q) := ⟨fun c a d v w h => T.ok c a d v w h⟩
theorem c_cut {X : Type} {c : Code} (I : X → Prop) (IF : X → List (Nat × Value)) (IL : X → List HP) (h : Reach w0 S0 n F L (c.wp P (cutQ w0 S0 n I IF IL Q))) (h' : ∀ x, I x → Reach w0 S0 n (IF x) (IL x) (Q .normal)) : Reach w0 S0 n F L (c.wp P Q) := by
  intro a w hf hs
  refine Code.wp_mono ?_ (h a w hf hs)
  intro e a w he
  cases e with
  | normal =>
    obtain ⟨x, hI, hF, hS⟩ := he
    exact h' x hI a w hF hS
  | _ => exact he
theorem cut_end {X : Type} {I : X → Prop} {IF : X → List (Nat × Value)} {IL : X → List HP} (x : X) (is : List Nat) (hL : pick L is = some (IL x)) (hF : covers F (IF x)) (hI : I x) : Reach w0 S0 n F L (cutQ w0 S0 n I IF IL Q .normal) :=
  fun _ _ hf hs => ⟨x, hI, hf.weaken (covers_spec hF), hs.pick is hL⟩
end
end Go.Sl
end
section
set_option linter.unusedVariables false
namespace Go.Proofs.Ytpajjnkmaebhcab
open Go.Sl
instance : ScTy Try.prog 1 := ⟨Try.isAgg1, Try.sizeOf1⟩
instance : ZrTy Try.prog 1 .nilFunc := ⟨Try.zeroValue1⟩
instance : ScTy Try.prog 2 := ⟨Try.isAgg2, Try.sizeOf2⟩
instance : ZrTy Try.prog 2 (.int .i64 0) := ⟨Try.zeroValue2⟩
instance : ScTy Try.prog 3 := ⟨Try.isAgg3, Try.sizeOf3⟩
instance : ZrTy Try.prog 3 (.int .i64 0) := ⟨Try.zeroValue3⟩
instance : ScTy Try.prog 4 := ⟨Try.isAgg4, Try.sizeOf4⟩
instance : ZrTy Try.prog 4 (.bool false) := ⟨Try.zeroValue4⟩
instance : ScTy Try.prog 5 := ⟨Try.isAgg5, Try.sizeOf5⟩
instance : ZrTy Try.prog 5 (.int .u8 0) := ⟨Try.zeroValue5⟩
instance : ScTy Try.prog 6 := ⟨Try.isAgg6, Try.sizeOf6⟩
instance : ZrTy Try.prog 6 (.int .u8 0) := ⟨Try.zeroValue6⟩
instance : BdTy Try.prog 7 (.agg #[(.int .i64 0), (.int .i64 0), (.bool false), (.int .u8 0)]) [(0, 1), (1, 1), (2, 1), (3, 1)] := ⟨Try.zeroValue7, _, Try.underlying7, fun w => by simp only [List.mapM_cons, List.mapM_nil, Sem.run_bind, Sem.run_pure, Result.andThen_ok, Try.sizeOf2, Try.sizeOf3, Try.sizeOf4, Try.sizeOf6]⟩
instance : FdTy Try.prog 7 0 0 0 false := ⟨_, _, Try.underlying7, rfl, rfl, Try.sizeOf2, Try.isAgg2⟩
instance : FdTy Try.prog 7 1 1 0 false := ⟨_, _, Try.underlying7, rfl, rfl, Try.sizeOf3, Try.isAgg3⟩
instance : FdTy Try.prog 7 2 2 0 false := ⟨_, _, Try.underlying7, rfl, rfl, Try.sizeOf4, Try.isAgg4⟩
instance : FdTy Try.prog 7 3 3 0 false := ⟨_, _, Try.underlying7, rfl, rfl, Try.sizeOf6, Try.isAgg6⟩
instance : AgTy Try.prog 7 4 := ⟨Try.isAgg7, Try.sizeOf7⟩
instance : ZrTy Try.prog 7 (.agg #[(.int .i64 0), (.int .i64 0), (.bool false), (.int .u8 0)]) := ⟨Try.zeroValue7⟩
instance : BdTy Try.prog 8 (.agg #[(.int .i64 0), (.int .i64 0), (.bool false), (.int .u8 0)]) [(0, 1), (1, 1), (2, 1), (3, 1)] := ⟨Try.zeroValue8, _, Try.underlying8, fun w => by simp only [List.mapM_cons, List.mapM_nil, Sem.run_bind, Sem.run_pure, Result.andThen_ok, Try.sizeOf2, Try.sizeOf3, Try.sizeOf4, Try.sizeOf6]⟩
instance : FdTy Try.prog 8 0 0 0 false := ⟨_, _, Try.underlying8, rfl, rfl, Try.sizeOf2, Try.isAgg2⟩
instance : FdTy Try.prog 8 1 1 0 false := ⟨_, _, Try.underlying8, rfl, rfl, Try.sizeOf3, Try.isAgg3⟩
instance : FdTy Try.prog 8 2 2 0 false := ⟨_, _, Try.underlying8, rfl, rfl, Try.sizeOf4, Try.isAgg4⟩
instance : FdTy Try.prog 8 3 3 0 false := ⟨_, _, Try.underlying8, rfl, rfl, Try.sizeOf6, Try.isAgg6⟩
instance : AgTy Try.prog 8 4 := ⟨Try.isAgg8, Try.sizeOf8⟩
instance : ZrTy Try.prog 8 (.agg #[(.int .i64 0), (.int .i64 0), (.bool false), (.int .u8 0)]) := ⟨Try.zeroValue8⟩
instance : ScTy Try.prog 9 := ⟨Try.isAgg9, Try.sizeOf9⟩
instance : ZrTy Try.prog 9 (.string ⟨#[]⟩) := ⟨Try.zeroValue9⟩
instance : StTy Try.prog 9 := ⟨Try.underlying9⟩
instance : ScTy Try.prog 10 := ⟨Try.isAgg10, Try.sizeOf10⟩
instance : ZrTy Try.prog 10 (.string ⟨#[]⟩) := ⟨Try.zeroValue10⟩
instance : StTy Try.prog 10 := ⟨Try.underlying10⟩
instance : ScTy Try.prog 11 := ⟨Try.isAgg11, Try.sizeOf11⟩
instance : ZrTy Try.prog 11 (.string ⟨#[]⟩) := ⟨Try.zeroValue11⟩
instance : StTy Try.prog 11 := ⟨Try.underlying11⟩
instance : ScTy Try.prog 12 := ⟨Try.isAgg12, Try.sizeOf12⟩
instance : ZrTy Try.prog 12 (.int .u64 0) := ⟨Try.zeroValue12⟩
instance : BdTy Try.prog 13 (.agg #[(.string ⟨#[]⟩), (.int .u64 0)]) [(0, 1), (1, 1)] := ⟨Try.zeroValue13, _, Try.underlying13, fun w => by simp only [List.mapM_cons, List.mapM_nil, Sem.run_bind, Sem.run_pure, Result.andThen_ok, Try.sizeOf9, Try.sizeOf12]⟩
instance : FdTy Try.prog 13 0 0 0 false := ⟨_, _, Try.underlying13, rfl, rfl, Try.sizeOf9, Try.isAgg9⟩
instance : FdTy Try.prog 13 1 1 0 false := ⟨_, _, Try.underlying13, rfl, rfl, Try.sizeOf12, Try.isAgg12⟩
instance : AgTy Try.prog 13 2 := ⟨Try.isAgg13, Try.sizeOf13⟩
instance : ZrTy Try.prog 13 (.agg #[(.string ⟨#[]⟩), (.int .u64 0)]) := ⟨Try.zeroValue13⟩
instance : BdTy Try.prog 14 (.agg #[(.string ⟨#[]⟩), (.int .u64 0)]) [(0, 1), (1, 1)] := ⟨Try.zeroValue14, _, Try.underlying14, fun w => by simp only [List.mapM_cons, List.mapM_nil, Sem.run_bind, Sem.run_pure, Result.andThen_ok, Try.sizeOf9, Try.sizeOf12]⟩
instance : FdTy Try.prog 14 0 0 0 false := ⟨_, _, Try.underlying14, rfl, rfl, Try.sizeOf9, Try.isAgg9⟩
instance : FdTy Try.prog 14 1 1 0 false := ⟨_, _, Try.underlying14, rfl, rfl, Try.sizeOf12, Try.isAgg12⟩
instance : AgTy Try.prog 14 2 := ⟨Try.isAgg14, Try.sizeOf14⟩
instance : ZrTy Try.prog 14 (.agg #[(.string ⟨#[]⟩), (.int .u64 0)]) := ⟨Try.zeroValue14⟩
instance : ScTy Try.prog 15 := ⟨Try.isAgg15, Try.sizeOf15⟩
instance : ZrTy Try.prog 15 (.pointer none) := ⟨Try.zeroValue15⟩
instance : ScTy Try.prog 16 := ⟨Try.isAgg16, Try.sizeOf16⟩
instance : ZrTy Try.prog 16 (.pointer none) := ⟨Try.zeroValue16⟩
instance : ScTy Try.prog 17 := ⟨Try.isAgg17, Try.sizeOf17⟩
instance : ZrTy Try.prog 17 (.pointer none) := ⟨Try.zeroValue17⟩
instance : BdTy Try.prog 18 (.agg #[(.pointer none)]) [(0, 1)] := ⟨Try.zeroValue18, _, Try.underlying18, fun w => by simp only [List.mapM_cons, List.mapM_nil, Sem.run_bind, Sem.run_pure, Result.andThen_ok, Try.sizeOf17]⟩
instance : FdTy Try.prog 18 0 0 0 false := ⟨_, _, Try.underlying18, rfl, rfl, Try.sizeOf17, Try.isAgg17⟩
instance : AgTy Try.prog 18 1 := ⟨Try.isAgg18, Try.sizeOf18⟩
instance : ZrTy Try.prog 18 (.agg #[(.pointer none)]) := ⟨Try.zeroValue18⟩
instance : BdTy Try.prog 19 (.agg #[(.pointer none)]) [(0, 1)] := ⟨Try.zeroValue19, _, Try.underlying19, fun w => by simp only [List.mapM_cons, List.mapM_nil, Sem.run_bind, Sem.run_pure, Result.andThen_ok, Try.sizeOf17]⟩
instance : FdTy Try.prog 19 0 0 0 false := ⟨_, _, Try.underlying19, rfl, rfl, Try.sizeOf17, Try.isAgg17⟩
instance : AgTy Try.prog 19 1 := ⟨Try.isAgg19, Try.sizeOf19⟩
instance : ZrTy Try.prog 19 (.agg #[(.pointer none)]) := ⟨Try.zeroValue19⟩
instance : ScTy Try.prog 20 := ⟨Try.isAgg20, Try.sizeOf20⟩
instance : ZrTy Try.prog 20 .nilIface := ⟨Try.zeroValue20⟩
instance : ScTy Try.prog 21 := ⟨Try.isAgg21, Try.sizeOf21⟩
instance : ZrTy Try.prog 21 (.int .i32 0) := ⟨Try.zeroValue21⟩
instance : ScTy Try.prog 22 := ⟨Try.isAgg22, Try.sizeOf22⟩
instance : ZrTy Try.prog 22 (.slice none 0 0) := ⟨Try.zeroValue22⟩
instance : SlTy Try.prog 22 41 (.agg #[(.int .i64 0), (.int .i64 0), (.int .i64 0)]) 3 24 := ⟨Try.underlying22, by kernel_rfl, Try.sizeOf41, rfl, by decide, by decide⟩
instance : BdTy Try.prog 23 (.agg #[(.int .i64 0), (.slice none 0 0)]) [(0, 1), (1, 1)] := ⟨Try.zeroValue23, _, Try.underlying23, fun w => by simp only [List.mapM_cons, List.mapM_nil, Sem.run_bind, Sem.run_pure, Result.andThen_ok, Try.sizeOf3, Try.sizeOf22]⟩
instance : FdTy Try.prog 23 0 0 0 false := ⟨_, _, Try.underlying23, rfl, rfl, Try.sizeOf3, Try.isAgg3⟩
instance : FdTy Try.prog 23 1 1 0 false := ⟨_, _, Try.underlying23, rfl, rfl, Try.sizeOf22, Try.isAgg22⟩
instance : AgTy Try.prog 23 2 := ⟨Try.isAgg23, Try.sizeOf23⟩
instance : ZrTy Try.prog 23 (.agg #[(.int .i64 0), (.slice none 0 0)]) := ⟨Try.zeroValue23⟩
instance : BdTy Try.prog 24 (.agg #[(.int .i64 0), (.slice none 0 0)]) [(0, 1), (1, 1)] := ⟨Try.zeroValue24, _, Try.underlying24, fun w => by simp only [List.mapM_cons, List.mapM_nil, Sem.run_bind, Sem.run_pure, Result.andThen_ok, Try.sizeOf3, Try.sizeOf22]⟩
instance : FdTy Try.prog 24 0 0 0 false := ⟨_, _, Try.underlying24, rfl, rfl, Try.sizeOf3, Try.isAgg3⟩
instance : FdTy Try.prog 24 1 1 0 false := ⟨_, _, Try.underlying24, rfl, rfl, Try.sizeOf22, Try.isAgg22⟩
instance : AgTy Try.prog 24 2 := ⟨Try.isAgg24, Try.sizeOf24⟩
instance : ZrTy Try.prog 24 (.agg #[(.int .i64 0), (.slice none 0 0)]) := ⟨Try.zeroValue24⟩
instance : ScTy Try.prog 25 := ⟨Try.isAgg25, Try.sizeOf25⟩
instance : ZrTy Try.prog 25 (.slice none 0 0) := ⟨Try.zeroValue25⟩
instance : SlTy Try.prog 25 3 (.int .i64 0) 1 8 := ⟨Try.underlying25, by kernel_rfl, Try.sizeOf3, rfl, by decide, by decide⟩
instance : ScTy Try.prog 26 := ⟨Try.isAgg26, Try.sizeOf26⟩
instance : ZrTy Try.prog 26 .nilFunc := ⟨Try.zeroValue26⟩
instance : ScTy Try.prog 27 := ⟨Try.isAgg27, Try.sizeOf27⟩
instance : ZrTy Try.prog 27 .nilFunc := ⟨Try.zeroValue27⟩
instance : ScTy Try.prog 28 := ⟨Try.isAgg28, Try.sizeOf28⟩
instance : ZrTy Try.prog 28 (.int .i64 0) := ⟨Try.zeroValue28⟩
instance : ScTy Try.prog 29 := ⟨Try.isAgg29, Try.sizeOf29⟩
instance : ZrTy Try.prog 29 .nilFunc := ⟨Try.zeroValue29⟩
instance : ScTy Try.prog 30 := ⟨Try.isAgg30, Try.sizeOf30⟩
instance : ZrTy Try.prog 30 .nilFunc := ⟨Try.zeroValue30⟩
instance : ScTy Try.prog 32 := ⟨Try.isAgg32, Try.sizeOf32⟩
instance : ZrTy Try.prog 32 .nilFunc := ⟨Try.zeroValue32⟩
instance : ScTy Try.prog 33 := ⟨Try.isAgg33, Try.sizeOf33⟩
instance : ZrTy Try.prog 33 .nilFunc := ⟨Try.zeroValue33⟩
instance : ScTy Try.prog 34 := ⟨Try.isAgg34, Try.sizeOf34⟩
instance : ZrTy Try.prog 34 .nilFunc := ⟨Try.zeroValue34⟩
instance : ScTy Try.prog 35 := ⟨Try.isAgg35, Try.sizeOf35⟩
instance : ZrTy Try.prog 35 .nilFunc := ⟨Try.zeroValue35⟩
instance : ScTy Try.prog 36 := ⟨Try.isAgg36, Try.sizeOf36⟩
instance : ZrTy Try.prog 36 .nilFunc := ⟨Try.zeroValue36⟩
instance : ScTy Try.prog 37 := ⟨Try.isAgg37, Try.sizeOf37⟩
instance : ZrTy Try.prog 37 .nilFunc := ⟨Try.zeroValue37⟩
instance : ScTy Try.prog 38 := ⟨Try.isAgg38, Try.sizeOf38⟩
instance : ZrTy Try.prog 38 (.slice none 0 0) := ⟨Try.zeroValue38⟩
instance : SlTy Try.prog 38 25 (.slice none 0 0) 1 24 := ⟨Try.underlying38, by kernel_rfl, Try.sizeOf25, rfl, by decide, by decide⟩
instance : ScTy Try.prog 39 := ⟨Try.isAgg39, Try.sizeOf39⟩
instance : ZrTy Try.prog 39 .nilFunc := ⟨Try.zeroValue39⟩
instance : BdTy Try.prog 40 (.agg #[(.int .i64 0), (.int .i64 0), (.int .i64 0)]) [(0, 1), (1, 1), (2, 1)] := ⟨Try.zeroValue40, _, Try.underlying40, fun w => by simp only [List.mapM_cons, List.mapM_nil, Sem.run_bind, Sem.run_pure, Result.andThen_ok, Try.sizeOf2, Try.sizeOf3]⟩
instance : FdTy Try.prog 40 0 0 0 false := ⟨_, _, Try.underlying40, rfl, rfl, Try.sizeOf3, Try.isAgg3⟩
instance : FdTy Try.prog 40 1 1 0 false := ⟨_, _, Try.underlying40, rfl, rfl, Try.sizeOf3, Try.isAgg3⟩
instance : FdTy Try.prog 40 2 2 0 false := ⟨_, _, Try.underlying40, rfl, rfl, Try.sizeOf2, Try.isAgg2⟩
instance : AgTy Try.prog 40 3 := ⟨Try.isAgg40, Try.sizeOf40⟩
instance : ZrTy Try.prog 40 (.agg #[(.int .i64 0), (.int .i64 0), (.int .i64 0)]) := ⟨Try.zeroValue40⟩
instance : BdTy Try.prog 41 (.agg #[(.int .i64 0), (.int .i64 0), (.int .i64 0)]) [(0, 1), (1, 1), (2, 1)] := ⟨Try.zeroValue41, _, Try.underlying41, fun w => by simp only [List.mapM_cons, List.mapM_nil, Sem.run_bind, Sem.run_pure, Result.andThen_ok, Try.sizeOf2, Try.sizeOf3]⟩
instance : FdTy Try.prog 41 0 0 0 false := ⟨_, _, Try.underlying41, rfl, rfl, Try.sizeOf3, Try.isAgg3⟩
instance : FdTy Try.prog 41 1 1 0 false := ⟨_, _, Try.underlying41, rfl, rfl, Try.sizeOf3, Try.isAgg3⟩
instance : FdTy Try.prog 41 2 2 0 false := ⟨_, _, Try.underlying41, rfl, rfl, Try.sizeOf2, Try.isAgg2⟩
instance : AgTy Try.prog 41 3 := ⟨Try.isAgg41, Try.sizeOf41⟩
instance : ZrTy Try.prog 41 (.agg #[(.int .i64 0), (.int .i64 0), (.int .i64 0)]) := ⟨Try.zeroValue41⟩
instance : ScTy Try.prog 42 := ⟨Try.isAgg42, Try.sizeOf42⟩
instance : ZrTy Try.prog 42 .nilFunc := ⟨Try.zeroValue42⟩
instance : ScTy Try.prog 44 := ⟨Try.isAgg44, Try.sizeOf44⟩
instance : ZrTy Try.prog 44 .nilFunc := ⟨Try.zeroValue44⟩
instance : ScTy Try.prog 45 := ⟨Try.isAgg45, Try.sizeOf45⟩
instance : ZrTy Try.prog 45 .nilFunc := ⟨Try.zeroValue45⟩
instance : ScTy Try.prog 46 := ⟨Try.isAgg46, Try.sizeOf46⟩
instance : ZrTy Try.prog 46 .nilFunc := ⟨Try.zeroValue46⟩
instance : ScTy Try.prog 48 := ⟨Try.isAgg48, Try.sizeOf48⟩
instance : ZrTy Try.prog 48 .nilFunc := ⟨Try.zeroValue48⟩
instance : ScTy Try.prog 49 := ⟨Try.isAgg49, Try.sizeOf49⟩
instance : ZrTy Try.prog 49 .nilFunc := ⟨Try.zeroValue49⟩
instance : ScTy Try.prog 50 := ⟨Try.isAgg50, Try.sizeOf50⟩
instance : ZrTy Try.prog 50 .nilFunc := ⟨Try.zeroValue50⟩
instance : ScTy Try.prog 51 := ⟨Try.isAgg51, Try.sizeOf51⟩
instance : ZrTy Try.prog 51 .nilFunc := ⟨Try.zeroValue51⟩
instance : ScTy Try.prog 52 := ⟨Try.isAgg52, Try.sizeOf52⟩
instance : ZrTy Try.prog 52 .nilFunc := ⟨Try.zeroValue52⟩
instance : ScTy Try.prog 53 := ⟨Try.isAgg53, Try.sizeOf53⟩
instance : ZrTy Try.prog 53 (.pointer none) := ⟨Try.zeroValue53⟩
instance : ScTy Try.prog 54 := ⟨Try.isAgg54, Try.sizeOf54⟩
instance : ZrTy Try.prog 54 (.slice none 0 0) := ⟨Try.zeroValue54⟩
instance : SlTy Try.prog 54 60 (.map none) 1 8 := ⟨Try.underlying54, by kernel_rfl, Try.sizeOf60, rfl, by decide, by decide⟩
instance : ScTy Try.prog 55 := ⟨Try.isAgg55, Try.sizeOf55⟩
instance : ZrTy Try.prog 55 (.slice none 0 0) := ⟨Try.zeroValue55⟩
instance : SlTy Try.prog 55 4 (.bool false) 1 1 := ⟨Try.underlying55, by kernel_rfl, Try.sizeOf4, rfl, by decide, by decide⟩
instance : AgTy Try.prog 56 6 := ⟨Try.isAgg56, Try.sizeOf56⟩
instance : ZrTy Try.prog 56 (.agg #[(.slice none 0 0), (.slice none 0 0), (.slice none 0 0), (.slice none 0 0), (.slice none 0 0), (.slice none 0 0)]) := ⟨Try.zeroValue56⟩
instance : ArTy Try.prog 56 6 25 1 := ⟨Try.underlying56, Try.sizeOf25⟩
instance : ScTy Try.prog 57 := ⟨Try.isAgg57, Try.sizeOf57⟩
instance : ZrTy Try.prog 57 (.slice none 0 0) := ⟨Try.zeroValue57⟩
instance : SlTy Try.prog 57 66 (.agg #[(.int .i64 0), (.int .i64 0), (.slice none 0 0)]) 3 40 := ⟨Try.underlying57, by kernel_rfl, Try.sizeOf66, rfl, by decide, by decide⟩
instance : BdTy Try.prog 58 (.agg #[(.slice none 0 0), (.slice none 0 0), (.slice none 0 0), (.slice none 0 0), (.slice none 0 0), (.slice none 0 0), (.slice none 0 0), (.slice none 0 0), (.slice none 0 0)]) [(0, 1), (1, 1), (2, 6), (8, 1)] := ⟨Try.zeroValue58, _, Try.underlying58, fun w => by simp only [List.mapM_cons, List.mapM_nil, Sem.run_bind, Sem.run_pure, Result.andThen_ok, Try.sizeOf54, Try.sizeOf55, Try.sizeOf56, Try.sizeOf57]⟩
instance : FdTy Try.prog 58 0 0 0 false := ⟨_, _, Try.underlying58, rfl, rfl, Try.sizeOf54, Try.isAgg54⟩
instance : FdTy Try.prog 58 1 1 0 false := ⟨_, _, Try.underlying58, rfl, rfl, Try.sizeOf55, Try.isAgg55⟩
instance : FdTy Try.prog 58 2 2 5 true := ⟨_, _, Try.underlying58, rfl, rfl, Try.sizeOf56, Try.isAgg56⟩
instance : FdTy Try.prog 58 3 8 0 false := ⟨_, _, Try.underlying58, rfl, rfl, Try.sizeOf57, Try.isAgg57⟩
instance : AgTy Try.prog 58 9 := ⟨Try.isAgg58, Try.sizeOf58⟩
instance : ZrTy Try.prog 58 (.agg #[(.slice none 0 0), (.slice none 0 0), (.slice none 0 0), (.slice none 0 0), (.slice none 0 0), (.slice none 0 0), (.slice none 0 0), (.slice none 0 0), (.slice none 0 0)]) := ⟨Try.zeroValue58⟩
instance : BdTy Try.prog 59 (.agg #[(.slice none 0 0), (.slice none 0 0), (.slice none 0 0), (.slice none 0 0), (.slice none 0 0), (.slice none 0 0), (.slice none 0 0), (.slice none 0 0), (.slice none 0 0)]) [(0, 1), (1, 1), (2, 6), (8, 1)] := ⟨Try.zeroValue59, _, Try.underlying59, fun w => by simp only [List.mapM_cons, List.mapM_nil, Sem.run_bind, Sem.run_pure, Result.andThen_ok, Try.sizeOf54, Try.sizeOf55, Try.sizeOf56, Try.sizeOf57]⟩
instance : FdTy Try.prog 59 0 0 0 false := ⟨_, _, Try.underlying59, rfl, rfl, Try.sizeOf54, Try.isAgg54⟩
instance : FdTy Try.prog 59 1 1 0 false := ⟨_, _, Try.underlying59, rfl, rfl, Try.sizeOf55, Try.isAgg55⟩
instance : FdTy Try.prog 59 2 2 5 true := ⟨_, _, Try.underlying59, rfl, rfl, Try.sizeOf56, Try.isAgg56⟩
instance : FdTy Try.prog 59 3 8 0 false := ⟨_, _, Try.underlying59, rfl, rfl, Try.sizeOf57, Try.isAgg57⟩
instance : AgTy Try.prog 59 9 := ⟨Try.isAgg59, Try.sizeOf59⟩
instance : ZrTy Try.prog 59 (.agg #[(.slice none 0 0), (.slice none 0 0), (.slice none 0 0), (.slice none 0 0), (.slice none 0 0), (.slice none 0 0), (.slice none 0 0), (.slice none 0 0), (.slice none 0 0)]) := ⟨Try.zeroValue59⟩
instance : ScTy Try.prog 60 := ⟨Try.isAgg60, Try.sizeOf60⟩
instance : ZrTy Try.prog 60 (.map none) := ⟨Try.zeroValue60⟩
instance : MpTy Try.prog 60 3 4 := ⟨Try.underlying60⟩
instance : ScTy Try.prog 61 := ⟨Try.isAgg61, Try.sizeOf61⟩
instance : ZrTy Try.prog 61 .nilFunc := ⟨Try.zeroValue61⟩
instance : ScTy Try.prog 62 := ⟨Try.isAgg62, Try.sizeOf62⟩
instance : ZrTy Try.prog 62 .nilFunc := ⟨Try.zeroValue62⟩
instance : ScTy Try.prog 63 := ⟨Try.isAgg63, Try.sizeOf63⟩
instance : ZrTy Try.prog 63 .nilFunc := ⟨Try.zeroValue63⟩
instance : BdTy Try.prog 65 (.agg #[(.int .i64 0), (.int .i64 0), (.slice none 0 0)]) [(0, 1), (1, 1), (2, 1)] := ⟨Try.zeroValue65, _, Try.underlying65, fun w => by simp only [List.mapM_cons, List.mapM_nil, Sem.run_bind, Sem.run_pure, Result.andThen_ok, Try.sizeOf3, Try.sizeOf25]⟩
instance : FdTy Try.prog 65 0 0 0 false := ⟨_, _, Try.underlying65, rfl, rfl, Try.sizeOf3, Try.isAgg3⟩
instance : FdTy Try.prog 65 1 1 0 false := ⟨_, _, Try.underlying65, rfl, rfl, Try.sizeOf3, Try.isAgg3⟩
instance : FdTy Try.prog 65 2 2 0 false := ⟨_, _, Try.underlying65, rfl, rfl, Try.sizeOf25, Try.isAgg25⟩
instance : AgTy Try.prog 65 3 := ⟨Try.isAgg65, Try.sizeOf65⟩
instance : ZrTy Try.prog 65 (.agg #[(.int .i64 0), (.int .i64 0), (.slice none 0 0)]) := ⟨Try.zeroValue65⟩
instance : BdTy Try.prog 66 (.agg #[(.int .i64 0), (.int .i64 0), (.slice none 0 0)]) [(0, 1), (1, 1), (2, 1)] := ⟨Try.zeroValue66, _, Try.underlying66, fun w => by simp only [List.mapM_cons, List.mapM_nil, Sem.run_bind, Sem.run_pure, Result.andThen_ok, Try.sizeOf3, Try.sizeOf25]⟩
instance : FdTy Try.prog 66 0 0 0 false := ⟨_, _, Try.underlying66, rfl, rfl, Try.sizeOf3, Try.isAgg3⟩
instance : FdTy Try.prog 66 1 1 0 false := ⟨_, _, Try.underlying66, rfl, rfl, Try.sizeOf3, Try.isAgg3⟩
instance : FdTy Try.prog 66 2 2 0 false := ⟨_, _, Try.underlying66, rfl, rfl, Try.sizeOf25, Try.isAgg25⟩
instance : AgTy Try.prog 66 3 := ⟨Try.isAgg66, Try.sizeOf66⟩
instance : ZrTy Try.prog 66 (.agg #[(.int .i64 0), (.int .i64 0), (.slice none 0 0)]) := ⟨Try.zeroValue66⟩
instance : ScTy Try.prog 67 := ⟨Try.isAgg67, Try.sizeOf67⟩
instance : ZrTy Try.prog 67 .nilFunc := ⟨Try.zeroValue67⟩
instance : ScTy Try.prog 68 := ⟨Try.isAgg68, Try.sizeOf68⟩
instance : ZrTy Try.prog 68 .nilFunc := ⟨Try.zeroValue68⟩
instance : ScTy Try.prog 70 := ⟨Try.isAgg70, Try.sizeOf70⟩
instance : ZrTy Try.prog 70 (.int .u64 0) := ⟨Try.zeroValue70⟩
instance : ScTy Try.prog 74 := ⟨Try.isAgg74, Try.sizeOf74⟩
instance : ZrTy Try.prog 74 .nilFunc := ⟨Try.zeroValue74⟩
instance : ScTy Try.prog 76 := ⟨Try.isAgg76, Try.sizeOf76⟩
instance : ZrTy Try.prog 76 .nilFunc := ⟨Try.zeroValue76⟩
instance : ScTy Try.prog 80 := ⟨Try.isAgg80, Try.sizeOf80⟩
instance : ZrTy Try.prog 80 .nilFunc := ⟨Try.zeroValue80⟩
instance : ScTy Try.prog 82 := ⟨Try.isAgg82, Try.sizeOf82⟩
instance : ZrTy Try.prog 82 .nilFunc := ⟨Try.zeroValue82⟩
instance : ScTy Try.prog 83 := ⟨Try.isAgg83, Try.sizeOf83⟩
instance : ZrTy Try.prog 83 (.int .u32 0) := ⟨Try.zeroValue83⟩
instance : ScTy Try.prog 86 := ⟨Try.isAgg86, Try.sizeOf86⟩
instance : ZrTy Try.prog 86 (.int .u64 0) := ⟨Try.zeroValue86⟩
instance : ScTy Try.prog 88 := ⟨Try.isAgg88, Try.sizeOf88⟩
instance : ZrTy Try.prog 88 .nilFunc := ⟨Try.zeroValue88⟩
instance : ScTy Try.prog 89 := ⟨Try.isAgg89, Try.sizeOf89⟩
instance : ZrTy Try.prog 89 .nilFunc := ⟨Try.zeroValue89⟩
instance : ScTy Try.prog 90 := ⟨Try.isAgg90, Try.sizeOf90⟩
instance : ZrTy Try.prog 90 .nilFunc := ⟨Try.zeroValue90⟩
instance : ScTy Try.prog 92 := ⟨Try.isAgg92, Try.sizeOf92⟩
instance : ZrTy Try.prog 92 (.slice none 0 0) := ⟨Try.zeroValue92⟩
instance : SlTy Try.prog 92 95 (.slice none 0 0) 1 24 := ⟨Try.underlying92, by kernel_rfl, Try.sizeOf95, rfl, by decide, by decide⟩
instance : ScTy Try.prog 95 := ⟨Try.isAgg95, Try.sizeOf95⟩
instance : ZrTy Try.prog 95 (.slice none 0 0) := ⟨Try.zeroValue95⟩
instance : SlTy Try.prog 95 97 (.agg #[(.int .i64 0), (.int .i64 0)]) 2 16 := ⟨Try.underlying95, by kernel_rfl, Try.sizeOf97, rfl, by decide, by decide⟩
instance : BdTy Try.prog 97 (.agg #[(.int .i64 0), (.int .i64 0)]) [(0, 1), (1, 1)] := ⟨Try.zeroValue97, _, Try.underlying97, fun w => by simp only [List.mapM_cons, List.mapM_nil, Sem.run_bind, Sem.run_pure, Result.andThen_ok, Try.sizeOf3]⟩
instance : FdTy Try.prog 97 0 0 0 false := ⟨_, _, Try.underlying97, rfl, rfl, Try.sizeOf3, Try.isAgg3⟩
instance : FdTy Try.prog 97 1 1 0 false := ⟨_, _, Try.underlying97, rfl, rfl, Try.sizeOf3, Try.isAgg3⟩
instance : AgTy Try.prog 97 2 := ⟨Try.isAgg97, Try.sizeOf97⟩
instance : ZrTy Try.prog 97 (.agg #[(.int .i64 0), (.int .i64 0)]) := ⟨Try.zeroValue97⟩
instance : ScTy Try.prog 98 := ⟨Try.isAgg98, Try.sizeOf98⟩
instance : ZrTy Try.prog 98 .nilFunc := ⟨Try.zeroValue98⟩
instance : ScTy Try.prog 99 := ⟨Try.isAgg99, Try.sizeOf99⟩
instance : ZrTy Try.prog 99 (.int .i64 0) := ⟨Try.zeroValue99⟩
instance : ScTy Try.prog 101 := ⟨Try.isAgg101, Try.sizeOf101⟩
instance : ZrTy Try.prog 101 .nilFunc := ⟨Try.zeroValue101⟩
instance : ScTy Try.prog 102 := ⟨Try.isAgg102, Try.sizeOf102⟩
instance : ZrTy Try.prog 102 .nilFunc := ⟨Try.zeroValue102⟩
instance : ScTy Try.prog 103 := ⟨Try.isAgg103, Try.sizeOf103⟩
instance : ZrTy Try.prog 103 .nilFunc := ⟨Try.zeroValue103⟩
instance : ScTy Try.prog 104 := ⟨Try.isAgg104, Try.sizeOf104⟩
instance : ZrTy Try.prog 104 .nilFunc := ⟨Try.zeroValue104⟩
instance : ScTy Try.prog 105 := ⟨Try.isAgg105, Try.sizeOf105⟩
instance : ZrTy Try.prog 105 .nilFunc := ⟨Try.zeroValue105⟩
instance : ScTy Try.prog 108 := ⟨Try.isAgg108, Try.sizeOf108⟩
instance : ZrTy Try.prog 108 (.map none) := ⟨Try.zeroValue108⟩
instance : MpTy Try.prog 108 97 97 := ⟨Try.underlying108⟩
instance : ScTy Try.prog 109 := ⟨Try.isAgg109, Try.sizeOf109⟩
instance : ZrTy Try.prog 109 .nilFunc := ⟨Try.zeroValue109⟩
instance : ScTy Try.prog 110 := ⟨Try.isAgg110, Try.sizeOf110⟩
instance : ZrTy Try.prog 110 .nilFunc := ⟨Try.zeroValue110⟩
instance : ScTy Try.prog 111 := ⟨Try.isAgg111, Try.sizeOf111⟩
instance : ZrTy Try.prog 111 .nilFunc := ⟨Try.zeroValue111⟩
instance : ScTy Try.prog 112 := ⟨Try.isAgg112, Try.sizeOf112⟩
instance : ZrTy Try.prog 112 (.map none) := ⟨Try.zeroValue112⟩
instance : MpTy Try.prog 112 97 4 := ⟨Try.underlying112⟩
instance : ScTy Try.prog 113 := ⟨Try.isAgg113, Try.sizeOf113⟩
instance : ZrTy Try.prog 113 (.slice none 0 0) := ⟨Try.zeroValue113⟩
instance : SlTy Try.prog 113 115 (.slice none 0 0) 1 24 := ⟨Try.underlying113, by kernel_rfl, Try.sizeOf115, rfl, by decide, by decide⟩
instance : ScTy Try.prog 114 := ⟨Try.isAgg114, Try.sizeOf114⟩
instance : ZrTy Try.prog 114 .nilFunc := ⟨Try.zeroValue114⟩
instance : ScTy Try.prog 115 := ⟨Try.isAgg115, Try.sizeOf115⟩
instance : ZrTy Try.prog 115 (.slice none 0 0) := ⟨Try.zeroValue115⟩
instance : SlTy Try.prog 115 117 (.agg #[(.int .i64 0), (.int .i64 0)]) 2 16 := ⟨Try.underlying115, by kernel_rfl, Try.sizeOf117, rfl, by decide, by decide⟩
instance : BdTy Try.prog 116 (.agg #[(.int .i64 0), (.int .i64 0)]) [(0, 1), (1, 1)] := ⟨Try.zeroValue116, _, Try.underlying116, fun w => by simp only [List.mapM_cons, List.mapM_nil, Sem.run_bind, Sem.run_pure, Result.andThen_ok, Try.sizeOf3]⟩
instance : FdTy Try.prog 116 0 0 0 false := ⟨_, _, Try.underlying116, rfl, rfl, Try.sizeOf3, Try.isAgg3⟩
instance : FdTy Try.prog 116 1 1 0 false := ⟨_, _, Try.underlying116, rfl, rfl, Try.sizeOf3, Try.isAgg3⟩
instance : AgTy Try.prog 116 2 := ⟨Try.isAgg116, Try.sizeOf116⟩
instance : ZrTy Try.prog 116 (.agg #[(.int .i64 0), (.int .i64 0)]) := ⟨Try.zeroValue116⟩
instance : BdTy Try.prog 117 (.agg #[(.int .i64 0), (.int .i64 0)]) [(0, 1), (1, 1)] := ⟨Try.zeroValue117, _, Try.underlying117, fun w => by simp only [List.mapM_cons, List.mapM_nil, Sem.run_bind, Sem.run_pure, Result.andThen_ok, Try.sizeOf3]⟩
instance : FdTy Try.prog 117 0 0 0 false := ⟨_, _, Try.underlying117, rfl, rfl, Try.sizeOf3, Try.isAgg3⟩
instance : FdTy Try.prog 117 1 1 0 false := ⟨_, _, Try.underlying117, rfl, rfl, Try.sizeOf3, Try.isAgg3⟩
instance : AgTy Try.prog 117 2 := ⟨Try.isAgg117, Try.sizeOf117⟩
instance : ZrTy Try.prog 117 (.agg #[(.int .i64 0), (.int .i64 0)]) := ⟨Try.zeroValue117⟩
instance : ScTy Try.prog 118 := ⟨Try.isAgg118, Try.sizeOf118⟩
instance : ZrTy Try.prog 118 (.int .u64 0) := ⟨Try.zeroValue118⟩
instance : ScTy Try.prog 119 := ⟨Try.isAgg119, Try.sizeOf119⟩
instance : ZrTy Try.prog 119 .nilFunc := ⟨Try.zeroValue119⟩
instance : ScTy Try.prog 120 := ⟨Try.isAgg120, Try.sizeOf120⟩
instance : ZrTy Try.prog 120 .nilFunc := ⟨Try.zeroValue120⟩
instance : ScTy Try.prog 121 := ⟨Try.isAgg121, Try.sizeOf121⟩
instance : ZrTy Try.prog 121 .nilFunc := ⟨Try.zeroValue121⟩
instance : ScTy Try.prog 122 := ⟨Try.isAgg122, Try.sizeOf122⟩
instance : ZrTy Try.prog 122 (.pointer none) := ⟨Try.zeroValue122⟩
instance : ScTy Try.prog 125 := ⟨Try.isAgg125, Try.sizeOf125⟩
instance : ZrTy Try.prog 125 .nilFunc := ⟨Try.zeroValue125⟩
instance : ScTy Try.prog 126 := ⟨Try.isAgg126, Try.sizeOf126⟩
instance : ZrTy Try.prog 126 .nilFunc := ⟨Try.zeroValue126⟩
instance : ScTy Try.prog 128 := ⟨Try.isAgg128, Try.sizeOf128⟩
instance : ZrTy Try.prog 128 .nilFunc := ⟨Try.zeroValue128⟩
instance : ScTy Try.prog 129 := ⟨Try.isAgg129, Try.sizeOf129⟩
instance : ZrTy Try.prog 129 (.pointer none) := ⟨Try.zeroValue129⟩
instance : ScTy Try.prog 130 := ⟨Try.isAgg130, Try.sizeOf130⟩
instance : ZrTy Try.prog 130 .nilFunc := ⟨Try.zeroValue130⟩
instance : ScTy Try.prog 131 := ⟨Try.isAgg131, Try.sizeOf131⟩
instance : ZrTy Try.prog 131 .nilFunc := ⟨Try.zeroValue131⟩
instance : ScTy Try.prog 133 := ⟨Try.isAgg133, Try.sizeOf133⟩
instance : ZrTy Try.prog 133 .nilFunc := ⟨Try.zeroValue133⟩
instance : ScTy Try.prog 134 := ⟨Try.isAgg134, Try.sizeOf134⟩
instance : ZrTy Try.prog 134 .nilFunc := ⟨Try.zeroValue134⟩
instance : BdTy Try.prog 141 (.agg #[(.pointer none), (.pointer none), (.pointer none), (.string ⟨#[]⟩)]) [(0, 1), (1, 1), (2, 1), (3, 1)] := ⟨Try.zeroValue141, _, Try.underlying141, fun w => by simp only [List.mapM_cons, List.mapM_nil, Sem.run_bind, Sem.run_pure, Result.andThen_ok, Try.sizeOf9, Try.sizeOf17]⟩
instance : FdTy Try.prog 141 0 0 0 false := ⟨_, _, Try.underlying141, rfl, rfl, Try.sizeOf17, Try.isAgg17⟩
instance : FdTy Try.prog 141 1 1 0 false := ⟨_, _, Try.underlying141, rfl, rfl, Try.sizeOf17, Try.isAgg17⟩
instance : FdTy Try.prog 141 2 2 0 false := ⟨_, _, Try.underlying141, rfl, rfl, Try.sizeOf17, Try.isAgg17⟩
instance : FdTy Try.prog 141 3 3 0 false := ⟨_, _, Try.underlying141, rfl, rfl, Try.sizeOf9, Try.isAgg9⟩
instance : AgTy Try.prog 141 4 := ⟨Try.isAgg141, Try.sizeOf141⟩
instance : ZrTy Try.prog 141 (.agg #[(.pointer none), (.pointer none), (.pointer none), (.string ⟨#[]⟩)]) := ⟨Try.zeroValue141⟩
instance : ScTy Try.prog 148 := ⟨Try.isAgg148, Try.sizeOf148⟩
instance : ZrTy Try.prog 148 (.int .u8 0) := ⟨Try.zeroValue148⟩
instance : FnTy Try.prog 3 := ⟨Try.call3⟩
instance : FnTy Try.prog 4 := ⟨Try.call4⟩
instance : FnTy Try.prog 5 := ⟨Try.call5⟩
instance : FnTy Try.prog 6 := ⟨Try.call6⟩
instance : FnTy Try.prog 7 := ⟨Try.call7⟩
instance : FnTy Try.prog 8 := ⟨Try.call8⟩
instance : FnTy Try.prog 9 := ⟨Try.call9⟩
instance : FnTy Try.prog 10 := ⟨Try.call10⟩
instance : FnTy Try.prog 12 := ⟨Try.call12⟩
instance : FnTy Try.prog 13 := ⟨Try.call13⟩
instance : FnTy Try.prog 14 := ⟨Try.call14⟩
instance : FnTy Try.prog 15 := ⟨Try.call15⟩
instance : FnTy Try.prog 16 := ⟨Try.call16⟩
instance : FnTy Try.prog 17 := ⟨Try.call17⟩
instance : FnTy Try.prog 18 := ⟨Try.call18⟩
instance : FnTy Try.prog 19 := ⟨Try.call19⟩
instance : FnTy Try.prog 20 := ⟨Try.call20⟩
instance : FnTy Try.prog 21 := ⟨Try.call21⟩
instance : FnTy Try.prog 22 := ⟨Try.call22⟩
instance : FnTy Try.prog 23 := ⟨Try.call23⟩
instance : FnTy Try.prog 24 := ⟨Try.call24⟩
instance : FnTy Try.prog 25 := ⟨Try.call25⟩
instance : FnTy Try.prog 26 := ⟨Try.call26⟩
instance : FnTy Try.prog 27 := ⟨Try.call27⟩
instance : FnTy Try.prog 28 := ⟨Try.call28⟩
instance : FnTy Try.prog 29 := ⟨Try.call29⟩
instance : FnTy Try.prog 30 := ⟨Try.call30⟩
instance : FnTy Try.prog 31 := ⟨Try.call31⟩
instance : FnTy Try.prog 32 := ⟨Try.call32⟩
instance : FnTy Try.prog 33 := ⟨Try.call33⟩
instance : FnTy Try.prog 34 := ⟨Try.call34⟩
instance : FnTy Try.prog 35 := ⟨Try.call35⟩
instance : FnTy Try.prog 36 := ⟨Try.call36⟩
instance : FnTy Try.prog 37 := ⟨Try.call37⟩
instance : FnTy Try.prog 38 := ⟨Try.call38⟩
instance : FnTy Try.prog 39 := ⟨Try.call39⟩
instance : FnTy Try.prog 40 := ⟨Try.call40⟩
instance : FnTy Try.prog 41 := ⟨Try.call41⟩
instance : FnTy Try.prog 42 := ⟨Try.call42⟩
instance : FnTy Try.prog 43 := ⟨Try.call43⟩
instance : FnTy Try.prog 44 := ⟨Try.call44⟩
instance : FnTy Try.prog 45 := ⟨Try.call45⟩
instance : FnTy Try.prog 46 := ⟨Try.call46⟩
instance : FnTy Try.prog 47 := ⟨Try.call47⟩
instance : FnTy Try.prog 48 := ⟨Try.call48⟩
instance : FnTy Try.prog 49 := ⟨Try.call49⟩
instance : FnTy Try.prog 50 := ⟨Try.call50⟩
instance : FnTy Try.prog 51 := ⟨Try.call51⟩
instance : FnTy Try.prog 52 := ⟨Try.call52⟩
instance : FnTy Try.prog 53 := ⟨Try.call53⟩
instance : FnTy Try.prog 54 := ⟨Try.call54⟩
instance : FnTy Try.prog 55 := ⟨Try.call55⟩
instance : FnTy Try.prog 56 := ⟨Try.call56⟩
instance : FnTy Try.prog 57 := ⟨Try.call57⟩
instance : FnTy Try.prog 58 := ⟨Try.call58⟩
instance : FnTy Try.prog 59 := ⟨Try.call59⟩
instance : FnTy Try.prog 60 := ⟨Try.call60⟩
instance : FnTy Try.prog 61 := ⟨Try.call61⟩
instance : FnTy Try.prog 62 := ⟨Try.call62⟩
instance : FnTy Try.prog 63 := ⟨Try.call63⟩
instance : FnTy Try.prog 64 := ⟨Try.call64⟩
instance : FnTy Try.prog 65 := ⟨Try.call65⟩
instance : FnTy Try.prog 66 := ⟨Try.call66⟩
instance : FnTy Try.prog 67 := ⟨Try.call67⟩
instance : FnTy Try.prog 68 := ⟨Try.call68⟩
instance : FnTy Try.prog 69 := ⟨Try.call69⟩
instance : FnTy Try.prog 70 := ⟨Try.call70⟩
instance : FnTy Try.prog 71 := ⟨Try.call71⟩
instance : FnTy Try.prog 72 := ⟨Try.call72⟩
instance : FnTy Try.prog 73 := ⟨Try.call73⟩
instance : FnTy Try.prog 74 := ⟨Try.call74⟩
instance : FnTy Try.prog 75 := ⟨Try.call75⟩
instance : FnTy Try.prog 76 := ⟨Try.call76⟩
instance : FnTy Try.prog 77 := ⟨Try.call77⟩
instance : FnTy Try.prog 78 := ⟨Try.call78⟩
instance : FnTy Try.prog 79 := ⟨Try.call79⟩
instance : FnTy Try.prog 80 := ⟨Try.call80⟩
instance : FnTy Try.prog 81 := ⟨Try.call81⟩
instance : FnTy Try.prog 82 := ⟨Try.call82⟩
instance : FnTy Try.prog 83 := ⟨Try.call83⟩
instance : FnTy Try.prog 84 := ⟨Try.call84⟩
instance : FnTy Try.prog 85 := ⟨Try.call85⟩
instance : FnTy Try.prog 86 := ⟨Try.call86⟩
instance : FnTy Try.prog 87 := ⟨Try.call87⟩
instance : FnTy Try.prog 88 := ⟨Try.call88⟩
instance : FnTy Try.prog 89 := ⟨Try.call89⟩
instance : FnTy Try.prog 90 := ⟨Try.call90⟩
instance : FnTy Try.prog 91 := ⟨Try.call91⟩
instance : FnTy Try.prog 92 := ⟨Try.call92⟩
instance : FnTy Try.prog 93 := ⟨Try.call93⟩
instance : FnTy Try.prog 94 := ⟨Try.call94⟩
instance : FnTy Try.prog 95 := ⟨Try.call95⟩
instance : FnTy Try.prog 96 := ⟨Try.call96⟩
instance : FnTy Try.prog 97 := ⟨Try.call97⟩
instance : FnTy Try.prog 98 := ⟨Try.call98⟩
instance : FnTy Try.prog 99 := ⟨Try.call99⟩
instance : FnTy Try.prog 100 := ⟨Try.call100⟩
instance : FnTy Try.prog 101 := ⟨Try.call101⟩
instance : FnTy Try.prog 102 := ⟨Try.call102⟩
end Go.Proofs.Ytpajjnkmaebhcab
end
section
set_option linter.unusedVariables false
set_option linter.unusedSimpArgs false
namespace Go.Sl
open Go Go.RowKit
section
variable {P : Program} {w0 : World} {S0 : FS} {n : Nat} {F : List (Nat × Value)} {L Lk : List HP} {o : Oper} {x y : Operand} {t e : TypeId} {a b : Int} {ops : Array Oper} {Q : Exit → Act → World → Prop} {d i : Nat} {ty : TypeId} {ps : String} {af : Array Edge} {plan : List PI}
end
end Go.Sl
end
section
set_option linter.unusedVariables false
set_option linter.unusedSimpArgs false
namespace Go.Sl
open Go Go.RowKit
/-- a struct of two integers -/
class E2Ty (P : Program) (t : TypeId) : Prop where
  g : P.eqGuardType P.depth t = false
  e : ∀ (a b c d : Int) w, (Op.equalIn 10000 t (.agg #[.int .i64 a, .int .i64 b]) (.agg #[.int .i64 c, .int .i64 d])).run P w = .ok (decide (a = c ∧ b = d)) w
section
variable {P : Program} {w0 : World} {S0 : FS} {n : Nat} {F : List (Nat × Value)} {L Lk : List HP} {o : Oper} {x y : Operand} {t t' : TypeId} {a b c e : Int} {rest : List Oper} {ops : Array Oper} {Q : Exit → Act → World → Prop} {d i : Nat} {ty : TypeId} {ps : String} {af : Array Edge} {plan : List PI}
end
open Go.Proofs
instance : E2Ty Try.prog 97 where
  g := by kernel_rfl
  e a b c d w := by
    rw [run_equalIn_agg w 9999 _ _ _ (by kernel_rfl) (by kernel_rfl)]
    simp [Program.fieldsOf, Try.underlying97, Op.eqFields, part]
    rw [run_equalIn_int w 9998 3 .i64 .i64 a c Try.underlying3, Result.andThen_ok]
    by_cases h1 : a = c
    · rw [if_neg (by simp [h1]), run_equalIn_int w 9998 3 .i64 .i64 b d Try.underlying3, Result.andThen_ok]
      by_cases h2 : b = d <;> simp [h1, h2]
    · rw [if_pos (by simp [h1])]
      simp [h1]
end Go.Sl
end
section
set_option linter.unusedVariables false
set_option linter.unusedSimpArgs false
namespace Go.Sl
open Go Go.RowKit
/-- a struct of two integers and a third one -/
class E3Ty (P : Program) (t : TypeId) : Prop where
  g : P.eqGuardType P.depth t = false
  e : ∀ (a b c d e f : Int) w, (Op.equalIn 10000 t (.agg #[.int .i64 a, .int .i64 b, .int .i64 c]) (.agg #[.int .i64 d, .int .i64 e, .int .i64 f])).run P w = .ok (decide (a = d ∧ b = e ∧ c = f)) w
section
variable {P : Program} {w0 : World} {S0 : FS} {n : Nat} {F : List (Nat × Value)} {L Lk : List HP} {o : Oper} {x y : Operand} {t t' e : TypeId} {rest : List Oper} {ops : Array Oper} {Q : Exit → Act → World → Prop} {d i : Nat} {ty : TypeId} {ps : String} {af : Array Edge} {plan : List PI} {s : Value} {k m len : Nat}
end
open Go.Proofs
instance : E3Ty Try.prog 41 where
  g := by kernel_rfl
  e a b c d e f w := by
    rw [run_equalIn_agg w 9999 _ _ _ (by kernel_rfl) (by kernel_rfl)]
    simp [Program.fieldsOf, Try.underlying41, Op.eqFields, part]
    rw [run_equalIn_int w 9998 3 .i64 .i64 a d Try.underlying3, Result.andThen_ok]
    by_cases h1 : a = d
    · rw [if_neg (by simp [h1]), run_equalIn_int w 9998 3 .i64 .i64 b e Try.underlying3, Result.andThen_ok]
      by_cases h2 : b = e
      · rw [if_neg (by simp [h2]), run_equalIn_int w 9998 2 .i64 .i64 c f Try.underlying2, Result.andThen_ok]
        by_cases h3 : c = f <;> simp [h1, h2, h3]
      · rw [if_pos (by simp [h2])]
        simp [h1, h2]
    · rw [if_pos (by simp [h1])]
      simp [h1]
end Go.Sl
end
section
set_option linter.unusedVariables false
namespace Go.Sl
open Go Go.RowKit
section
variable {P : Program} {w0 : World} {S0 : FS} {n : Nat} {F : List (Nat × Value)} {L Lk : List HP} {rest : List Oper} {ops : Array Oper} {Q : Exit → Act → World → Prop} {Qa : Act → Prop} {d i : Nat} {v : Value} {ty : TypeId} {ps : String} {af : Array Edge} {plan : List PI}
theorem s_look {x y : Operand} {ka : Value} {t k : TypeId} {α β : Type} {ek : α → Value} {ev0 : β → Value} {ok : α → Prop} {z : β} {s : Value} {ks : List (α × β)} {a : α} {b : β} [DecidableEq α] [T : MapTy P t α β ek ev0 ok z k] (hn : Nat.blt d n = true) (hx : ev F x = some s) (hy : ev F y = some ka) (hL : mapHP ek ev0 ok s ks ∈ L) (hka : ka = ek a) (hv : (getK ks a).getD z = b) (ha : ok a) (h : Reach w0 S0 n ((d, ev0 b) :: F) L (wpList P ops Q rest)) : Reach w0 S0 n F L (wpList P ops Q (⟨some d, .lookup t x y false, ty, ps, af, none⟩ :: rest)) := s_q rfl rfl hn (q_look rfl hx hy hL hka hv ha).q h
theorem s_look_kid {x y : Operand} {ka : Value} {Ks : List HP} {t k : TypeId} {α β : Type} {ek : α → Value} {ev0 : β → Value} {ok : α → Prop} {z : β} {s : Value} {ks : List (α × β)} {a : α} {b : β} [DecidableEq α] [T : MapTy P t α β ek ev0 ok z k] (hn : Nat.blt d n = true) (hx : ev F x = some s) (hy : ev F y = some ka) (hK : mapHP? ek ev0 ok s (some ks) ∈ Ks) (hL : starHP Ks ∈ L) (hka : ka = ek a) (hv : (getK ks a).getD z = b) (ha : ok a) (h : Reach w0 S0 n ((d, ev0 b) :: F) L (wpList P ops Q rest)) : Reach w0 S0 n F L (wpList P ops Q (⟨some d, .lookup t x y false, ty, ps, af, none⟩ :: rest)) := s_q rfl rfl hn (q_look_kid rfl hx hy hK hL hka hv ha).q h
theorem s_lenm_kid {x : Operand} {Ks : List HP} {t k : TypeId} {α β : Type} {ek : α → Value} {ev0 : β → Value} {ok : α → Prop} {z : β} {s : Value} {ks : List (α × β)} [DecidableEq α] [T : MapTy P t α β ek ev0 ok z k] (hn : Nat.blt d n = true) (hx : ev F x = some s) (hK : mapHP? ek ev0 ok s (some ks) ∈ Ks) (hL : starHP Ks ∈ L) (h : Reach w0 S0 n ((d, .int .i64 (ks.length : Int)) :: F) L (wpList P ops Q rest)) : Reach w0 S0 n F L (wpList P ops Q (⟨some d, .call { callee := .builtin .len, args := #[x], argTypes := #[t] }, ty, ps, af, none⟩ :: rest)) := s_q rfl rfl hn (q_lenm_kid (z := z) (k := k) rfl hx hK hL).q h
theorem w_lenm_kid {x : Operand} {Ks : List HP} {t k : TypeId} {α β : Type} {ek : α → Value} {ev0 : β → Value} {ok : α → Prop} {z : β} {s : Value} {ks : List (α × β)} {gd : Nat × Bool} {u : Nat} {want : Bool} [DecidableEq α] [T : MapTy P t α β ek ev0 ok z k] (hg : gslot ops ⟨some d, .call { callee := .builtin .len, args := #[x], argTypes := #[t] }, ty, ps, af, some gd⟩ = some (u, want)) (ht : fget F u = some (.bool want)) (hn : Nat.blt d n = true) (hx : ev F x = some s) (hK : mapHP? ek ev0 ok s (some ks) ∈ Ks) (hL : starHP Ks ∈ L) (h : Reach w0 S0 n ((d, .int .i64 (ks.length : Int)) :: F) L (wpList P ops Q rest)) : Reach w0 S0 n F L (wpList P ops Q (⟨some d, .call { callee := .builtin .len, args := #[x], argTypes := #[t] }, ty, ps, af, some gd⟩ :: rest)) := s_want hg ht rfl hn (q_lenm_kid (z := z) (k := k) rfl hx hK hL).q h
theorem s_entry {x : Operand} {α β : Type} {ek : α → Value} {ev0 : β → Value} {ok : α → Prop} {s it : Value} {ks left : List (α × β)} {p0 : α × β} [DecidableEq α] (hn : Nat.blt d n = true) (hx : ev F x = some it) (hL : rangeHP ek ev0 ok s it ks left (some p0) ∈ L) (h : Reach w0 S0 n ((d, .tuple #[ek p0.1, ev0 p0.2]) :: F) L (wpList P ops Q rest)) : Reach w0 S0 n F L (wpList P ops Q (⟨some d, .entry x, ty, ps, af, none⟩ :: rest)) := s_q rfl rfl hn (q_entry rfl hx hL).q h
end
end Go.Sl
end
section
namespace Go.Sl
open Go Go.Proofs
instance : BoTy Try.prog 4 := ⟨Try.underlying4⟩
instance : MapTy Try.prog 60 Int Bool ekI Value.bool okI false 3 := mapTy_int Try.underlying60 Try.underlying3 (fun w => Try.zeroValue4 w)
end Go.Sl
end
section
namespace Go.Sl
open Go.RowKit
section
variable {P : Program} {w0 : World} {S0 : FS} {n : Nat} {F : List (Nat × Value)} {L Lk : List HP} {rest : List Oper} {ops : Array Oper} {Q : Exit → Act → World → Prop} {d i : Nat} {ty : TypeId} {ps : String} {af : Array Edge} {plan : List PI}
theorem mod_trans0 {w w1 w2 : World} {S1 S2 : FS} (h : Mod w No w1 S1) (h2 : Mod w1 No w2 S2) : Mod w No w2 (fun k => S1 k ∨ S2 k) :=
  h.trans ⟨h2.os, h2.tape, h2.output, h2.drawn, h2.size, fun k hk _ => h2.keep k hk (fun h => h), fun k hk => hk.imp id (fun h => (h2.new k h).elim (fun h => h.elim) id)⟩
end
end Go.Sl
end
section
namespace Go.Sl
open Go.RowKit
/-- an integer type -/
class InTy (P : Program) (t : TypeId) (k : outParam IntKind) : Prop where
  u : P.underlying t = some (.int k)
section
variable {P : Program} {w0 : World} {S0 : FS} {n : Nat} {F : List (Nat × Value)} {L Lk : List HP} {rest : List Oper} {ops : Array Oper} {Q : Exit → Act → World → Prop} {d i : Nat} {v : Value} {plan : List PI} {ty : TypeId} {ps : String} {af : Array Edge}
variable {o : Oper} {x y : Operand} {t t' : TypeId} {a b r : Int} {k k' : IntKind}
theorem run_conv [T : InTy P t k] [T' : InTy P t' k'] (w : World) (h : k'.min ≤ a ∧ a ≤ k'.max) : (Go.convert t t' (.int k a)).run P w = .ok (.int k' a) w := by
  simp [Go.convert, run_underlying T.u, run_underlying T'.u, Conv.intToInt, wrap_id h]
theorem q_conv [T : InTy P t k] [T' : InTy P t' k'] (ho : o.op = .convert t t' x) (hx : ev F x = some (.int k a)) (h : k'.min ≤ a ∧ a ≤ k'.max) : R1 P w0 S0 n F L o (.int k' a) :=
  q_of_pure fun ac hf w => by simp [execOp, ho, hf.eval hx, run_conv w h]
theorem q_nilc {p : Addr} (ho : o.op = .nilCheck x) (hx : ev F x = some (.pointer (some p))) : R1 P w0 S0 n F L o (.pointer (some p)) :=
  q_of_pure fun ac hf w => by simp [execOp, ho, hf.eval hx]
theorem s_nilc {p : Addr} (hn : Nat.blt d n = true) (hx : ev F x = some (.pointer (some p))) (h : Reach w0 S0 n ((d, .pointer (some p)) :: F) L (wpList P ops Q rest)) : Reach w0 S0 n F L (wpList P ops Q (⟨some d, .nilCheck x, ty, ps, af, none⟩ :: rest)) := s_q rfl rfl hn (q_nilc rfl hx).q h
theorem s_conv [T : InTy P t k] [T' : InTy P t' k'] (hn : Nat.blt d n = true) (hx : ev F x = some (.int k a)) (hb : k'.min ≤ a ∧ a ≤ k'.max) (h : Reach w0 S0 n ((d, .int k' a) :: F) L (wpList P ops Q rest)) : Reach w0 S0 n F L (wpList P ops Q (⟨some d, .convert t t' x, ty, ps, af, none⟩ :: rest)) := s_q rfl rfl hn (q_conv rfl hx hb).q h
end
end Go.Sl
end
section
namespace Go.Sl
open Go Go.Proofs
instance : InTy Try.prog 3 .i64 := ⟨Try.underlying3⟩
instance : InTy Try.prog 70 .u64 := ⟨Try.underlying70⟩
end Go.Sl
end
section
namespace Fil
abbrev E := Int × Int × Int
def cmpK (a b : Int) : Int := if a < b then -1 else if b < a then 1 else 0
def orderK (a b : E) : Int := if cmpK a.1 b.1 = 0 then cmpK a.2.1 b.2.1 else cmpK a.1 b.1
def sizesK (n m : Int) : Int := if n < 0 then 1 else if 1048576 < n ∨ 4194304 < m then 4 else 0
def aloneK (n u v x : Int) : Int := if min u v < 0 ∨ n ≤ max u v then 5 else if u = v then 6 else if x ≤ -2147483648 ∨ 2147483648 ≤ x then 8 else 0
def belowB (a b : E) : Bool := decide (a.1 < b.1) || (decide (a.1 = b.1) && decide (a.2.1 < b.2.1))
/-- from edge k on -/
def scan (n : Int) : Option E → List E → Int
  | _, [] => 0
  | p, e :: r =>
    if aloneK n e.1 e.2.1 e.2.2 = 0 then
      if e.2.1 < e.1 then 1
      else match p with
        | none => scan n (some e) r
        | some q => if orderK q e = 0 then 7 else if orderK q e = 1 then 1 else scan n (some e) r
    else aloneK n e.1 e.2.1 e.2.2
def rightK (n : Int) (es : List E) : Int := if sizesK n es.length = 0 then scan n none es else sizesK n es.length
theorem scan_at {n : Int} {es : List E} {k : Nat} {e : E} (he : es[k]? = some e) (p : Option E) : scan n p (es.drop k) = (if aloneK n e.1 e.2.1 e.2.2 = 0 then
      if e.2.1 < e.1 then 1
      else match p with
        | none => scan n (some e) (es.drop (k + 1))
        | some q => if orderK q e = 0 then 7 else if orderK q e = 1 then 1 else scan n (some e) (es.drop (k + 1))
    else aloneK n e.1 e.2.1 e.2.2) := by
  obtain ⟨hlt, rfl⟩ := List.getElem?_eq_some_iff.1 he
  rw [List.drop_eq_getElem_cons hlt]
  cases p <;> rfl
theorem orderK_below (a b : E) : (belowB a b = true ↔ orderK a b = -1) ∧ (belowB b a = true ↔ orderK a b = 1) := by
  simp only [belowB, orderK, cmpK, Bool.or_eq_true, Bool.and_eq_true, decide_eq_true_eq]
  constructor <;> (repeat' split) <;> omega
theorem orderK_range (a b : E) : orderK a b = -1 ∨ orderK a b = 0 ∨ orderK a b = 1 := by
  simp only [orderK, cmpK]
  (repeat' split) <;> omega
end Fil
end
section
namespace Go.Proofs.Ytpajjnkmaebhcab
open Go.RowKit Go.Sl Fil
set_option maxRecDepth 100000
set_option maxHeartbeats 8000000
set_option linter.unusedVariables false
set_option linter.unusedSimpArgs false
attribute [local irreducible] Code.wp wpList bodyPost wpQuiet Exit.then Exit.inBlock Post wpAnyH wpOp
def eV (e : E) : List Value := [.int .i64 e.1, .int .i64 e.2.1, .int .i64 e.2.2]
def esV (es : List E) : List Value := es.flatMap eV
theorem esV_at {es : List E} {k : Nat} {e : E} (h : es[k]? = some e) : ((esV es).drop (k * 3)).take 3 = eV e := by
  induction es generalizing k with
  | nil => simp at h
  | cons x es ih =>
    cases k with
    | zero =>
      obtain rfl : x = e := by simpa using h
      rfl
    | succ k =>
      have := ih (k := k) (by simpa using h)
      rw [show (k + 1) * 3 = 3 + k * 3 from by omega]
      show (((eV x) ++ esV es).drop (3 + k * 3)).take 3 = eV e
      rw [← List.drop_drop, List.drop_append_of_le_length (by simp [eV])]
      simpa [eV] using this
theorem esV_length (es : List E) : (esV es).length = es.length * 3 := by
  induction es with
  | nil => rfl
  | cons x es ih => show ((eV x) ++ esV es).length = _; rw [List.length_append, ih]; simp [eV]; omega
theorem isNaN_ok (a : Int) (w : World) : Calls Try.prog 61 #[.int .i64 a] w (Post w No (Just (.bool false))) := by
  refine enter0 (vs := [_]) Try.func61 rfl Try.ntmps61 rfl ?_
  repeat' first
    | refine k_then ?_ | refine c_seq ?_ | refine c_region ?_ | refine s_nil ?_ | refine s_move (by exact rfl) (by exact rfl) ?_ | refine s_assign (by exact rfl) (by exact rfl) ?_ | refine s_neq (by exact rfl) (by exact rfl) (by exact rfl) ?_ | refine c_ret ?_
  refine ret1 [] rfl rfl rfl ⟨by simp, rfl⟩
theorem Compare_ok (a b : Int) (w : World) : Calls Try.prog 53 #[.int .i64 a, .int .i64 b] w (Post w No (Just (.int .i64 (cmpK a b)))) := by
  refine enter0 (vs := [_, _]) Try.func53 rfl Try.ntmps53 rfl ?_
  repeat' first
    | refine k_then ?_ | refine c_seq ?_ | refine c_region ?_ | refine s_nil ?_ | refine s_move (by exact rfl) (by exact rfl) ?_ | refine s_assign (by exact rfl) (by exact rfl) ?_
  refine s_call (by exact rfl) (by exact rfl) (fun w hs => isNaN_ok _ w) ?_
  repeat' first
    | refine k_then ?_ | refine c_seq ?_ | refine c_region ?_ | refine s_nil ?_ | refine s_move (by exact rfl) (by exact rfl) ?_ | refine s_assign (by exact rfl) (by exact rfl) ?_
  refine s_call (by exact rfl) (by exact rfl) (fun w hs => isNaN_ok _ w) ?_
  repeat' first
    | refine k_then ?_ | refine c_seq ?_ | refine c_region ?_ | refine s_nil ?_ | refine s_move (by exact rfl) (by exact rfl) ?_ | refine s_assign (by exact rfl) (by exact rfl) ?_ | refine s_lss (by exact rfl) (by exact rfl) (by exact rfl) ?_ | refine s_gtr (by exact rfl) (by exact rfl) (by exact rfl) ?_ | refine c_skip ?_ | refine c_ret ?_ | refine k_then_ret ?_ | (refine c_cond_p (by exact rfl) (fun h => ?_) (fun h => ?_) <;> try (exfalso; omega)) | refine c_cond_f (by exact rfl) ?_
  all_goals refine ret1 [] rfl rfl rfl ⟨?_, rfl⟩
  all_goals (refine congrArg (Value.int .i64) ?_; simp only [cmpK]; repeat' split)
  all_goals omega
theorem Or_ok (s : Value) (a b : Int) (w : World) (hr : RO w No s [.int .i64 a, .int .i64 b]) (hs : Shp s 2) : Calls Try.prog 52 #[s] w (Post w No (Just (.int .i64 (if a = 0 then b else a)))) := by
  refine enter0 (vs := [_]) Try.func52 rfl Try.ntmps52 rfl ?_
  repeat' first
    | refine k_then ?_ | refine c_seq ?_ | refine c_region ?_ | refine s_nil ?_ | refine s_move (by exact rfl) (by exact rfl) ?_ | refine s_assign (by exact rfl) (by exact rfl) ?_ | refine s_len (by exact rfl) (by exact rfl) (by assumption) ?_ | refine c_block ?_
  refine c_loop (fun k : Nat => k ≤ 2 ∧ (0 < k → a = 0) ∧ (1 < k → b = 0)) (fun k => [(0, s), (6, s), (7, .int .i64 2), (8, .int .i64 (k : Int)), (3, .int .i64 0)]) (fun _ => []) (fun k => 2 - k) 0 [] ⟨by omega, by omega, by omega⟩ rfl ⟨rfl, rfl, rfl, rfl, rfl, trivial⟩ ?_
  rintro k ⟨hk, ha, hb⟩
  by_cases hlt : k < 2
  · have hc : ([.int .i64 a, .int .i64 b] : List Value)[k * 1]? = some (.int .i64 (if k = 0 then a else b)) := by
      rcases Nat.lt_or_ge k 1 with h | h
      · obtain rfl : k = 0 := by omega
        rfl
      · obtain rfl : k = 1 := by omega
        rfl
    repeat' first
      | refine k_then ?_ | refine c_seq ?_ | refine c_region ?_ | refine s_nil ?_ | refine s_move (by exact rfl) (by exact rfl) ?_ | refine s_assign (by exact rfl) (by exact rfl) ?_ | refine s_lss (by exact rfl) (by exact rfl) (by exact rfl) ?_ | refine s_neq (by exact rfl) (by exact rfl) (by exact rfl) ?_ | refine s_add (by exact rfl) (by exact rfl) (by exact rfl) (by omega) ?_ | refine s_idx (by exact rfl) (by exact rfl) (by exact rfl) (by assumption) (by first | assumption | omega) ?_ | refine s_ld_ro (by exact rfl) (by exact rfl) (by assumption) (by assumption) ?_ | refine c_block ?_ | refine c_skip ?_ | refine c_ret ?_ | refine k_then_ret ?_ | refine k_blk ?_ | refine k_blk_ret ?_ | (refine c_cond_p (by exact rfl) (fun h => ?_) (fun h => ?_) <;> try (exfalso; omega))
    · refine ret1 [] rfl rfl rfl ⟨congrArg (Value.int .i64) ?_, rfl⟩
      rcases Nat.lt_or_ge k 1 with h' | h'
      · obtain rfl : k = 0 := by omega
        simp_all
      · obtain rfl : k = 1 := by omega
        simp_all
    · refine c_round (k + 1) [] (by exact rfl) (by exact ⟨rfl, rfl, rfl, rfl, rfl, trivial⟩) ⟨by omega, fun _ => ?_, fun _ => ?_⟩ (by omega)
      · rcases Nat.lt_or_ge k 1 with h' | h'
        · obtain rfl : k = 0 := by omega
          simp_all
        · exact ha (by omega)
      · obtain rfl : k = 1 := by omega
        simp_all
  · repeat' first
      | refine k_then ?_ | refine c_seq ?_ | refine c_region ?_ | refine s_nil ?_ | refine s_move (by exact rfl) (by exact rfl) ?_ | refine s_assign (by exact rfl) (by exact rfl) ?_ | refine s_lss (by exact rfl) (by exact rfl) (by exact rfl) ?_ | refine c_exit ?_ | refine c_ret ?_ | refine k_then_exit ?_ | refine k_blk_eq ?_ | (refine c_cond_p (by exact rfl) (fun h => ?_) (fun h => ?_) <;> try (exfalso; omega))
    refine ret1 [] rfl rfl rfl ⟨congrArg (Value.int .i64) ?_, rfl⟩
    simp [ha (by omega), hb (by omega)]
theorem sizes_ok (n m : Int) (w : World) :
    Calls Try.prog 36 #[.int .i64 n, .int .i64 m] w (Post w No (Just (.int .i64 (sizesK n m)))) := by
  refine enter0 (vs := [_, _]) Try.func36 rfl Try.ntmps36 rfl ?_
  repeat' first
    | refine k_then ?_ | refine c_seq ?_ | refine c_region ?_ | refine s_nil ?_ | refine s_move (by exact rfl) (by exact rfl) ?_ | refine s_assign (by exact rfl) (by exact rfl) ?_ | refine s_lss (by exact rfl) (by exact rfl) (by exact rfl) ?_ | refine s_gtr (by exact rfl) (by exact rfl) (by exact rfl) ?_ | refine c_block ?_ | refine c_skip ?_ | refine c_ret ?_ | refine k_then_ret ?_ | refine k_blk ?_ | refine k_blk_ret ?_ | (refine c_cond_p (by exact rfl) (fun h => ?_) (fun h => ?_) <;> try (exfalso; omega))
  all_goals refine ret1 [] rfl rfl rfl ⟨?_, rfl⟩
  all_goals (refine congrArg (Value.int .i64) ?_; simp only [sizesK]; repeat' split)
  all_goals omega
theorem alone_ok (n : Int) (e : E) (w : World) :
    Calls Try.prog 37 #[.int .i64 n, .agg (eV e).toArray] w (Post w No (Just (.int .i64 (aloneK n e.1 e.2.1 e.2.2)))) := by
  refine enter0 (vs := [_, _]) Try.func37 rfl Try.ntmps37 rfl ?_
  repeat' first
    | refine k_then ?_ | refine c_seq ?_ | refine c_region ?_ | refine s_nil ?_ | refine s_move (by exact rfl) (by exact rfl) ?_ | refine s_assign (by exact rfl) (by exact rfl) ?_ | refine s_fa (by exact rfl) (by exact rfl) ?_ | refine s_ld_box (by exact rfl) (by exact rfl) (by exact .head _) (by exact rfl) ?_ | refine s_lss (by exact rfl) (by exact rfl) (by exact rfl) ?_ | refine s_leq (by exact rfl) (by exact rfl) (by exact rfl) ?_ | refine s_eql (by exact rfl) (by exact rfl) (by exact rfl) ?_ | refine s_min (by exact rfl) (by exact rfl) (by exact rfl) ?_ | refine s_pick_t (by exact rfl) (by exact rfl) (by exact rfl) ?_ | refine s_pick_f (by exact rfl) (by exact rfl) (by exact rfl) ?_ | refine o_box (by exact rfl) (by exact rfl) (fun b => ?_) | refine c_block ?_ | refine c_skip ?_ | refine c_ret ?_ | refine k_then_ret ?_ | refine k_blk ?_ | refine k_blk_ret ?_ | (refine c_cond_p (by exact rfl) (fun h => ?_) (fun h => ?_) <;> try (exfalso; omega)) | refine c_cond_t (by exact rfl) ?_ | (refine g_case (by exact rfl) (by exact rfl) (fun h => ?_) (fun h => ?_) <;> try (exfalso; omega)) | refine g_skip (by exact rfl) (by exact rfl) (by exact rfl) (by exact rfl) ?_ | refine w_move (by exact rfl) (by exact rfl) (by exact rfl) (by exact rfl) ?_ | refine w_fa (by exact rfl) (by exact rfl) (by exact rfl) (by exact rfl) ?_ | refine w_ld_box (by exact rfl) (by exact rfl) (by exact rfl) (by exact rfl) (by exact .head _) (by exact rfl) ?_ | refine w_geq (by exact rfl) (by exact rfl) (by exact rfl) (by exact rfl) (by exact rfl) ?_ | refine w_max (by exact rfl) (by exact rfl) (by exact rfl) (by exact rfl) (by exact rfl) ?_
  all_goals refine ret1 [] rfl rfl rfl ⟨?_, rfl⟩
  all_goals (refine congrArg (Value.int .i64) ?_; simp only [aloneK]; repeat' split)
  all_goals omega
theorem order_ok (a b : E) (w : World) : Calls Try.prog 38 #[.agg (eV a).toArray, .agg (eV b).toArray] w (Post w No (Just (.int .i64 (orderK a b)))) := by
  refine enter0 (vs := [_, _]) Try.func38 rfl Try.ntmps38 rfl ?_
  repeat' first
    | refine k_then ?_ | refine c_seq ?_ | refine c_region ?_ | refine s_nil ?_ | refine s_assign (by exact rfl) (by exact rfl) ?_ | refine o_box (by exact rfl) (by exact rfl) (fun b => ?_)
  refine p_begin0 [(0, true), (1, true), (2, true), (3, true), (5, true), (6, true), (7, true), (8, true), (4, false), (9, false), (10, false), (11, false), (12, true)] (by kernel_rfl) ?_
  repeat' first
    | (refine p_at (by exact rfl) ?_
       first
        | refine t_fa (by exact rfl) (by exact rfl) (by exact fun _ h => h) ?_ | refine t_ld_box (by exact rfl) (by exact rfl) (by first | exact .head _ | exact .tail _ (.head _)) (by exact rfl) (by exact fun _ h => h) ?_)
  refine p_call (gd := none) (by exact rfl) rfl (by exact rfl) (fun w hs => Compare_ok _ _ w) (by exact fun _ h => h) ?_
  refine p_call (gd := none) (by exact rfl) rfl (by exact rfl) (fun w hs => Compare_ok _ _ w) (by exact fun _ h => h) ?_
  refine p_mk [_, _] (by exact rfl) rfl (by exact rfl) rfl ?_ ?_ (by simp) (fun w A h => h.tl) (fun s hs => ?_)
  · simp [Value.cells]
  · simp
  refine p_call (gd := none) (by exact rfl) rfl (by exact rfl) (fun w h => Or_ok s _ _ w (ro_own h (.head _)) hs) (by exact fun _ h => h.tl) ?_
  repeat' first
    | refine p_nil ?_
    | (refine p_at (by exact rfl) ?_
       first
        | refine t_assign (by exact rfl) (by exact rfl) (by exact fun _ h => h.tl) ?_)
  repeat' first
    | refine k_then ?_ | refine c_ret ?_
  refine ret1 [] rfl rfl rfl ⟨?_, rfl⟩
  simp [orderK]
def prev (es : List E) (k : Nat) : Option E := if k = 0 then none else es[k - 1]?
theorem Right_ok (n : Int) (v : Value) (es : List E) (w : World) (hs : Shp v es.length) (hr : RO w No v (esV es)) (hm : es.length < 4611686018427387904) :
    Calls Try.prog 19 #[.agg #[.int .i64 n, v]] w (Post w No (Just (.int .i64 (rightK n es)))) := by
  refine enter0 (vs := [_]) Try.func19 rfl Try.ntmps19 rfl ?_
  repeat' first
    | refine k_then ?_ | refine c_seq ?_ | refine c_region ?_ | refine s_nil ?_ | refine s_assign (by exact rfl) (by exact rfl) ?_ | refine s_fa (by exact rfl) (by exact rfl) ?_ | refine s_ld_box (by exact rfl) (by exact rfl) (by exact .head _) (by exact rfl) ?_ | refine s_len (by exact rfl) (by exact rfl) (by assumption) ?_ | refine o_box (by exact rfl) (by exact rfl) (fun b => ?_)
  refine s_call (by exact rfl) (by exact rfl) (fun w hs => sizes_ok _ _ w) ?_
  repeat' first
    | refine k_then ?_ | refine c_seq ?_ | refine c_region ?_ | refine s_nil ?_ | refine s_move (by exact rfl) (by exact rfl) ?_ | refine s_assign (by exact rfl) (by exact rfl) ?_ | refine s_fa (by exact rfl) (by exact rfl) ?_ | refine s_ld_box (by exact rfl) (by exact rfl) (by exact .head _) (by exact rfl) ?_ | refine s_neq (by exact rfl) (by exact rfl) (by exact rfl) ?_ | refine s_len (by exact rfl) (by exact rfl) (by assumption) ?_ | refine c_block ?_ | refine c_skip ?_ | refine c_ret ?_ | refine k_then_ret ?_ | (refine c_cond_p (by exact rfl) (fun h => ?_) (fun h => ?_) <;> try (exfalso; omega))
  · refine ret1 [] rfl rfl rfl ⟨congrArg (Value.int .i64) ?_, rfl⟩
    rw [rightK, if_neg h]
  · have h0 : sizesK n es.length = 0 := by simpa using h
    refine c_loop (fun k : Nat => k ≤ es.length ∧ scan n (prev es k) (es.drop k) = scan n none es) (fun k => [(1, .pointer (some ⟨b, 0, none⟩)), (17, v), (18, .int .i64 (es.length : Int)), (19, .int .i64 (k : Int))]) (fun _ => [boxHP b 24 [.int .i64 n, v]]) (fun k => es.length - k) 0 [0] ⟨by omega, rfl⟩ rfl ⟨rfl, rfl, rfl, rfl, trivial⟩ ?_
    rintro k ⟨hk, hsc⟩
    by_cases hlt : k < es.length
    · obtain ⟨e, he⟩ : ∃ e, es[k]? = some e := ⟨_, List.getElem?_eq_getElem hlt⟩
      have hE := esV_at he
      rw [scan_at he] at hsc
      repeat' first
        | refine k_then ?_ | refine c_seq ?_ | refine c_region ?_ | refine s_nil ?_ | refine s_move (by exact rfl) (by exact rfl) ?_ | refine s_assign (by exact rfl) (by exact rfl) ?_ | refine s_lss (by exact rfl) (by exact rfl) (by exact rfl) ?_ | refine s_idx (by exact rfl) (by exact rfl) (by exact rfl) (by assumption) (by first | assumption | omega) ?_ | refine s_ldk_ro (by exact rfl) (by exact rfl) (by assumption) (by decide) (by assumption) (by exact rfl) ?_ | refine o_alloc (by exact rfl) (fun b => ?_) | refine c_block ?_ | refine c_skip ?_ | (refine c_cond_p (by exact rfl) (fun h => ?_) (fun h => ?_) <;> try (exfalso; omega))
      refine o_stk_box (i := 0) (us := eV e) (by exact rfl) (by exact rfl) (by exact rfl) (by exact rfl) (by exact rfl) (by simp [eV, Value.oneCell']) (by simp [Value.cells]) ?_
      repeat' first
        | refine k_then ?_ | refine c_seq ?_ | refine c_region ?_ | refine s_nil ?_ | refine s_fa (by exact rfl) (by exact rfl) ?_ | refine s_ld_box (by exact rfl) (by exact rfl) (by exact .tail _ (.head _)) (by exact rfl) ?_ | refine s_ldk_box (by exact rfl) (by exact rfl) (by exact .head _) (by exact rfl) (by exact rfl) ?_
      refine s_call (by exact rfl) (by exact rfl) (fun w hs => alone_ok n e w) ?_
      repeat' first
        | refine k_then ?_ | refine c_seq ?_ | refine c_region ?_ | refine s_nil ?_ | refine s_move (by exact rfl) (by exact rfl) ?_ | refine s_assign (by exact rfl) (by exact rfl) ?_ | refine s_fa (by exact rfl) (by exact rfl) ?_ | refine s_ld_box (by exact rfl) (by exact rfl) (by exact .head _) (by exact rfl) ?_ | refine s_gtr (by exact rfl) (by exact rfl) (by exact rfl) ?_ | refine s_eql (by exact rfl) (by exact rfl) (by exact rfl) ?_ | refine s_neq (by exact rfl) (by exact rfl) (by exact rfl) ?_ | refine s_add (by exact rfl) (by exact rfl) (by exact rfl) (by omega) ?_ | refine c_block ?_ | refine c_skip ?_ | refine c_exit ?_ | refine c_ret ?_ | refine k_then_ret ?_ | refine k_then_exit ?_ | refine k_blk ?_ | refine k_blk_ret ?_ | refine k_blk_eq ?_ | refine k_blk_ne (by exact rfl) ?_ | (refine c_cond_p (by exact rfl) (fun h => ?_) (fun h => ?_) <;> try (exfalso; omega))
      · refine ret1 [] rfl rfl rfl ⟨congrArg (Value.int .i64) ?_, rfl⟩
        rw [rightK, if_pos h0, ← hsc, if_neg h]
      · refine ret1 [] rfl rfl rfl ⟨congrArg (Value.int .i64) ?_, rfl⟩
        rw [rightK, if_pos h0, ← hsc, if_pos (by omega), if_pos h]
      · refine c_round (k + 1) [1] (by exact rfl) (by exact ⟨rfl, rfl, rfl, rfl, trivial⟩) ⟨by omega, ?_⟩ (by omega)
        obtain rfl : k = 0 := by omega
        rw [← hsc, if_pos (by omega), if_neg (by omega)]
        simp only [prev, Nat.zero_add, Nat.one_ne_zero, if_false, Nat.sub_self, he, if_true]
      · obtain ⟨q, hq⟩ : ∃ q, es[k - 1]? = some q := ⟨_, List.getElem?_eq_getElem (by omega)⟩
        have hQ : ((esV es).drop (((k : Int) - 1).toNat * 3)).take 3 = eV q := by
          rw [show ((k : Int) - 1).toNat = k - 1 from by omega]
          exact esV_at hq
        have hpr : prev es k = some q := by rw [prev, if_neg (by omega), hq]
        rw [hpr] at hsc
        refine p_begin0 [(0, true), (1, true), (2, true), (3, true), (4, true), (5, true), (6, true), (7, false)] (by kernel_rfl) ?_
        repeat' first
          | (refine p_at (by exact rfl) ?_
             first
              | refine t_move (by exact rfl) (by exact rfl) (by exact fun _ h => h) ?_ | refine t_fa (by exact rfl) (by exact rfl) (by exact fun _ h => h) ?_ | refine t_ld_box (by exact rfl) (by exact rfl) (by exact .tail _ (.head _)) (by exact rfl) (by exact fun _ h => h) ?_ | refine t_sub (by exact rfl) (by exact rfl) (by exact rfl) (by omega) (by exact fun _ h => h) ?_ | refine t_idxi (by exact rfl) (by exact rfl) (by exact rfl) (by assumption) (by first | assumption | omega) (by exact fun _ h => h) ?_ | refine t_ldk_box (by exact rfl) (by exact rfl) (by exact .head _) (by exact rfl) (by exact rfl) (by exact fun _ h => h) ?_ | refine t_ldk_ro (by exact rfl) (by exact rfl) (by assumption) (by decide) (by assumption) (by exact rfl) (by exact fun _ h => h) ?_)
        refine p_call (gd := none) (by exact rfl) rfl (by exact rfl) (fun w hs => order_ok q e w) (by exact fun _ h => h) ?_
        repeat' first
          | refine p_nil ?_
        repeat' first
          | refine k_then ?_ | refine c_seq ?_ | refine c_region ?_ | refine s_nil ?_ | refine s_move (by exact rfl) (by exact rfl) ?_ | refine s_assign (by exact rfl) (by exact rfl) ?_ | refine s_eql (by exact rfl) (by exact rfl) (by exact rfl) ?_ | refine s_add (by exact rfl) (by exact rfl) (by exact rfl) (by omega) ?_ | refine c_block ?_ | refine c_skip ?_ | refine c_ret ?_ | refine k_then_ret ?_ | refine k_blk ?_ | refine k_blk_ret ?_ | (refine c_cond_p (by exact rfl) (fun h => ?_) (fun h => ?_) <;> try (exfalso; omega))
        · refine ret1 [] rfl rfl rfl ⟨congrArg (Value.int .i64) ?_, rfl⟩
          rw [rightK, if_pos h0, ← hsc, if_pos (by omega), if_neg (by omega)]
          simp only [if_pos h]
        · refine ret1 [] rfl rfl rfl ⟨congrArg (Value.int .i64) ?_, rfl⟩
          rw [rightK, if_pos h0, ← hsc, if_pos (by omega), if_neg (by omega)]
          simp only [if_pos h]
          split <;> first | omega | rfl
        · refine c_round (k + 1) [1] (by exact rfl) (by exact ⟨rfl, rfl, rfl, rfl, trivial⟩) ⟨by omega, ?_⟩ (by omega)
          rw [← hsc, if_pos (by omega), if_neg (by omega)]
          simp only [prev, Nat.add_sub_cancel, he]
          rw [if_neg (by omega), if_neg (by omega), if_neg (by omega)]
    · repeat' first
        | refine k_then ?_ | refine c_seq ?_ | refine c_region ?_ | refine s_nil ?_ | refine s_assign (by exact rfl) (by exact rfl) ?_ | refine s_lss (by exact rfl) (by exact rfl) (by exact rfl) ?_ | refine c_exit ?_ | refine c_ret ?_ | refine k_then_exit ?_ | refine k_blk_eq ?_ | (refine c_cond_p (by exact rfl) (fun h => ?_) (fun h => ?_) <;> try (exfalso; omega))
      refine ret1 [] rfl rfl rfl ⟨congrArg (Value.int .i64) ?_, rfl⟩
      rw [rightK, if_pos h0, ← hsc, List.drop_eq_nil_of_le (by omega)]
      simp [scan]
end Go.Proofs.Ytpajjnkmaebhcab
end
section
namespace Go.Proofs
open Go.Shelf
def Try.sortInts_ren : Go.Shelf.Ren := ⟨fun | 5 => 42 | 8 => 57 | 7 => 56 | 19 => 71 | 20 => 72 | 10 => 62 | 11 => 63 | 12 => 64 | 13 => 65 | 14 => 66 | 15 => 67 | 16 => 68 | 17 => 69 | 18 => 70 | 30 => 78 | 31 => 79 | 32 => 80 | 33 => 81 | 34 => 82 | 35 => 61 | 40 => 87 | n => n, fun | 23 => 25 | 25 => 3 | 3 => 3 | 32 => 70 | 22 => 25 | 0 => 0 | 44 => 83 | 46 => 86 | 4 => 4 | 36 => 100 | 35 => 99 | 41 => 75 | 5 => 5 | 9 => 9 | 53 => 118 | 57 => 122 | 63 => 129 | 64 => 77 | n => n, fun | n => n⟩
theorem Try.sortInts : Go.Proofs.SlLaysM.n5 Try.prog Try.sortInts_ren := {
  mixed := by kernel_rfl
  f5 := ⟨Try.f42.name, by decide, Try.func42.trans (congrArg some (by kernel_rfl))⟩
  f7 := ⟨Try.f56.name, by decide, Try.func56.trans (congrArg some (by kernel_rfl))⟩
  f8 := Try.func57.trans (congrArg some (by kernel_rfl))
  f10 := ⟨Try.f62.name, by decide, Try.func62.trans (congrArg some (by kernel_rfl))⟩
  f11 := ⟨Try.f63.name, by decide, Try.func63.trans (congrArg some (by kernel_rfl))⟩
  f12 := ⟨Try.f64.name, by decide, Try.func64.trans (congrArg some (by kernel_rfl))⟩
  f13 := ⟨Try.f65.name, by decide, Try.func65.trans (congrArg some (by kernel_rfl))⟩
  f14 := ⟨Try.f66.name, by decide, Try.func66.trans (congrArg some (by kernel_rfl))⟩
  f15 := ⟨Try.f67.name, by decide, Try.func67.trans (congrArg some (by kernel_rfl))⟩
  f16 := ⟨Try.f68.name, by decide, Try.func68.trans (congrArg some (by kernel_rfl))⟩
  f17 := ⟨Try.f69.name, by decide, Try.func69.trans (congrArg some (by kernel_rfl))⟩
  f18 := ⟨Try.f70.name, by decide, Try.func70.trans (congrArg some (by kernel_rfl))⟩
  f19 := Try.func71.trans (congrArg some (by kernel_rfl))
  f20 := Try.func72.trans (congrArg some (by kernel_rfl))
  f30 := ⟨Try.f78.name, by decide, Try.func78.trans (congrArg some (by kernel_rfl))⟩
  f31 := Try.func79.trans (congrArg some (by kernel_rfl))
  f32 := Try.func80.trans (congrArg some (by kernel_rfl))
  f33 := ⟨Try.f81.name, by decide, Try.func81.trans (congrArg some (by kernel_rfl))⟩
  f34 := ⟨Try.f82.name, by decide, Try.func82.trans (congrArg some (by kernel_rfl))⟩
  f35 := ⟨Try.f61.name, by decide, Try.func61.trans (congrArg some (by kernel_rfl))⟩
  f40 := ⟨Try.f87.name, by decide, Try.func87.trans (congrArg some (by kernel_rfl))⟩
  t0 := Try.underlying0
  a0 := Try.isAgg0
  z0 := Try.sizeOf0
  v0 := Try.zeroValue0
  t3 := Try.underlying3
  a3 := Try.isAgg3
  z3 := Try.sizeOf3
  v3 := Try.zeroValue3
  t4 := Try.underlying4
  a4 := Try.isAgg4
  z4 := Try.sizeOf4
  v4 := Try.zeroValue4
  t5 := Try.underlying5
  a5 := Try.isAgg5
  z5 := Try.sizeOf5
  v5 := Try.zeroValue5
  t9 := Try.underlying9
  a9 := Try.isAgg9
  z9 := Try.sizeOf9
  v9 := Try.zeroValue9
  t22 := Try.underlying25
  a22 := Try.isAgg25
  z22 := Try.sizeOf25
  v22 := Try.zeroValue25
  t23 := Try.underlying25
  a23 := Try.isAgg25
  z23 := Try.sizeOf25
  v23 := Try.zeroValue25
  t25 := Try.underlying3
  a25 := Try.isAgg3
  z25 := Try.sizeOf3
  v25 := Try.zeroValue3
  t32 := Try.underlying70
  a32 := Try.isAgg70
  z32 := Try.sizeOf70
  v32 := Try.zeroValue70
  t35 := Try.underlying99
  a35 := Try.isAgg99
  z35 := Try.sizeOf99
  v35 := Try.zeroValue99
  t36 := Try.underlying100
  a36 := Try.isAgg100
  z36 := Try.sizeOf100
  v36 := Try.zeroValue100
  t41 := Try.underlying75
  a41 := Try.isAgg75
  z41 := Try.sizeOf75
  v41 := Try.zeroValue75
  t44 := Try.underlying83
  a44 := Try.isAgg83
  z44 := Try.sizeOf83
  v44 := Try.zeroValue83
  t46 := Try.underlying86
  a46 := Try.isAgg86
  z46 := Try.sizeOf86
  v46 := Try.zeroValue86
  t53 := Try.underlying118
  a53 := Try.isAgg118
  z53 := Try.sizeOf118
  v53 := Try.zeroValue118
  t57 := Try.underlying122
  a57 := Try.isAgg122
  z57 := Try.sizeOf122
  v57 := Try.zeroValue122
  t63 := Try.underlying129
  a63 := Try.isAgg129
  z63 := Try.sizeOf129
  v63 := Try.zeroValue129
  t64 := Try.underlying77
  a64 := Try.isAgg77
  z64 := Try.sizeOf77
  v64 := Try.zeroValue77 }
end Go.Proofs
namespace Go.Sl
open Go Go.RowKit Go.Sort Go.Proofs
def iV (l : List Int) : List Value := l.map (Value.int .i64)
def nV (l : List Nat) : List Value := l.map fun (k : Nat) => .int .i64 (k : Int)
theorem putCells_take (cur : Array Value) (off : Nat) (ts : List Int) (h : off + ts.length ≤ cur.size) : ((putCells (Value.int .i64) off ts.toArray cur).toList.drop off).take ts.length = ts.map (Value.int .i64) := by
  apply List.ext_getElem?
  intro j
  by_cases hj : j < ts.length
  · rw [List.getElem?_take_of_lt hj, List.getElem?_drop, Array.getElem?_toList]
    simp [putCells, hj, show off + j < cur.size by omega]
  · rw [List.getElem?_take_eq_none (by omega), List.getElem?_eq_none (by simp; omega)]
theorem sort_row {w : World} {v : Value} {e : TypeId} {l : List Int} {S : FS} (h : (rowHP v e 1 l.length (iV l)).sat S w) (hlen : l.length < 4611686018427387904) :
    Calls Try.prog 42 #[v] w (Post w S fun r L' => r = .tuple #[] ∧ L' = [rowHP v e 1 l.length (iV (l.mergeSort fun x y => decide (x ≤ y)))]) := by
  rcases h.2 with ⟨rfl, h0⟩ | ⟨g, off, cap, cur, rfl, h2, h3, h4, h5, h6, h7⟩ | ⟨⟨a0, rfl⟩, h0⟩
  · have hl : l = [] := List.eq_nil_of_length_eq_zero h0
    subst hl
    have c := AnyM.slices_Sort_int_none Try.sortInts none 0 w
    change Calls Try.prog 42 _ _ _ at c
    refine Calls.mono c ?_
    rintro e' w' ⟨rfl, hw⟩
    subst hw
    refine ⟨_, _, ⟨rfl, rfl⟩, rfl, S, Mod.refl _ _, S, fun _ => False, fun _ h => h, fun _ h => h.elim, fun _ _ h => h, ?_, trivial⟩
    simpa [iV] using h
  · have hg := (Array.getElem?_eq_some_iff.1 h3).1
    have hH : Holds (Value.int .i64) w g off l.toArray := by
      intro j hj
      have hj' : j < l.length := by simpa using hj
      refine ⟨?_, by simp [World.frozen?, h3]⟩
      have h1 : ((cur.toList.drop off).take (l.length * 1))[j]? = (iV l)[j]? := by rw [h7]
      rw [List.getElem?_take_of_lt (by omega), List.getElem?_drop] at h1
      simp only [World.cell?, h3]
      simp only [Option.isSome_none, Bool.false_eq_true, if_false]
      rw [← Array.getElem?_toList, h1]
      simp [iV, hj']
    have c := AnyM.slices_Sort_int Try.sortInts g off cap l w hH hg hlen
    change Calls Try.prog 42 _ _ _ at c
    refine Calls.mono c ?_
    rintro e' w' ⟨rfl, n, os, rfl⟩
    refine ⟨_, _, ⟨rfl, rfl⟩, rfl, S, ⟨rfl, rfl, rfl, Nat.le_add_right _ _, by simp, fun k hk hS => ?_, fun k h => .inl h⟩, S, fun _ => False, fun _ h => h, fun _ h => h.elim, fun _ _ h => h, ?_, trivial⟩
    · rw [heap_grow_old _ _ (by simpa using hk)]
      have : g ≠ k := fun e => hS (by rw [← e]; exact h2)
      simp [putRow, mapBlock, Sort.ahead, Array.getElem?_modify, this]
    · have hlen' : (l.mergeSort fun x y => decide (x ≤ y)).length = l.length := List.length_mergeSort _
      refine ⟨by simp [iV], .inr (.inl ⟨g, off, cap, putCells (Value.int .i64) off (l.mergeSort fun x y => decide (x ≤ y)).toArray cur, rfl, h2, ?_, h4, h5, by simp [putCells, h6], ?_⟩)⟩
      · rw [heap_grow_old _ _ (by simpa using hg)]
        simp [putRow, mapBlock, Sort.ahead, Array.getElem?_modify, h3, onCells]
      · have := putCells_take cur off (l.mergeSort fun x y => decide (x ≤ y)) (by rw [hlen', h6]; omega)
        rw [hlen'] at this
        rw [Nat.mul_one]
        exact this
  · have hl : l = [] := List.eq_nil_of_length_eq_zero h0
    subst hl
    have c := AnyM.slices_Sort_int_none Try.sortInts (some a0) 0 w
    change Calls Try.prog 42 _ _ _ at c
    refine Calls.mono c ?_
    rintro e' w' ⟨rfl, hw⟩
    subst hw
    refine ⟨_, _, ⟨rfl, rfl⟩, rfl, S, Mod.refl _ _, S, fun _ => False, fun _ h => h, fun _ h => h.elim, fun _ _ h => h, ?_, trivial⟩
    simpa [iV] using h
theorem nat_sort (l : List Nat) : (l.map fun (k : Nat) => (k : Int)).mergeSort (fun x y => decide (x ≤ y)) = (l.mergeSort fun x y => decide (x ≤ y)).map fun (k : Nat) => (k : Int) := by
  exact (List.map_mergeSort (r := fun (x y : Nat) => decide (x ≤ y)) (s := fun (x y : Int) => decide (x ≤ y)) (f := fun (k : Nat) => (k : Int)) (fun a _ b _ => by simp)).symm
theorem nsort_row {w : World} {v : Value} {e : TypeId} {l : List Nat} {S : FS} (h : (rowHP v e 1 l.length (nV l)).sat S w) (hlen : l.length < 4611686018427387904) :
    Calls Try.prog 42 #[v] w (Post w S fun r L' => r = .tuple #[] ∧ L' = [rowHP v e 1 l.length (nV (l.mergeSort fun x y => decide (x ≤ y)))]) := by
  have e1 : ∀ l : List Nat, nV l = iV (l.map fun (k : Nat) => (k : Int)) := fun l => by simp [nV, iV]
  rw [e1] at h
  have := sort_row (l := l.map fun (k : Nat) => (k : Int)) (by simpa using h) (by simpa using hlen)
  rw [nat_sort, List.length_map] at this
  simpa only [e1] using this
end Go.Sl
end
section
namespace Go.Proofs.Ytpajjnkmaebhcab
open Go.RowKit Go.Sl Fil
set_option maxRecDepth 100000
set_option maxHeartbeats 8000000
set_option linter.unusedVariables false
set_option linter.unusedSimpArgs false
attribute [local irreducible] Code.wp wpList bodyPost wpQuiet Exit.then Exit.inBlock Post wpAnyH wpOp
theorem esV_get {es : List E} {k : Nat} {e : E} (h : es[k]? = some e) : (esV es)[k * 3 + 0]? = some (.int .i64 e.1) ∧ (esV es)[k * 3 + 1]? = some (.int .i64 e.2.1) ∧ (esV es)[k * 3 + 2]? = some (.int .i64 e.2.2) := by
  have h1 := esV_at h
  have key : ∀ j, j < 3 → (esV es)[k * 3 + j]? = (eV e)[j]? := fun j hj => by
    rw [← h1, List.getElem?_take, if_pos hj, List.getElem?_drop]
  exact ⟨key 0 (by omega), key 1 (by omega), key 2 (by omega)⟩
theorem many_ok (n m : Int) (w : World) : Calls Try.prog 29 #[.int .i64 n, .int .i64 m] w (Post w No (Just (.int .i64 (sizesK n m)))) := by
  refine enter0 (vs := [_, _]) Try.func29 rfl Try.ntmps29 rfl ?_
  repeat' first
    | refine k_then ?_ | refine c_seq ?_ | refine c_region ?_ | refine s_nil ?_ | refine s_move (by exact rfl) (by exact rfl) ?_ | refine s_assign (by exact rfl) (by exact rfl) ?_ | refine s_lss (by exact rfl) (by exact rfl) (by exact rfl) ?_ | refine s_gtr (by exact rfl) (by exact rfl) (by exact rfl) ?_ | refine s_pick_t (by exact rfl) (by exact rfl) (by exact rfl) ?_ | refine s_pick_f (by exact rfl) (by exact rfl) (by exact rfl) ?_ | refine c_skip ?_ | refine c_ret ?_ | refine k_then_ret ?_ | (refine c_cond_p (by exact rfl) (fun h => ?_) (fun h => ?_) <;> try (exfalso; omega)) | refine c_cond_t (by exact rfl) ?_ | (refine g_case (by exact rfl) (by exact rfl) (fun h => ?_) (fun h => ?_) <;> try (exfalso; omega)) | refine g_skip (by exact rfl) (by exact rfl) (by exact rfl) (by exact rfl) ?_ | refine w_move (by exact rfl) (by exact rfl) (by exact rfl) (by exact rfl) ?_ | refine w_gtr (by exact rfl) (by exact rfl) (by exact rfl) (by exact rfl) (by exact rfl) ?_
  all_goals refine ret1 [] rfl rfl rfl ⟨?_, rfl⟩
  all_goals (refine congrArg (Value.int .i64) ?_; simp only [sizesK]; repeat' split)
  all_goals omega
theorem edge_ok (n : Int) (e : E) (w : World) : Calls Try.prog 30 #[.int .i64 n, .agg (eV e).toArray] w (Post w No (Just (.int .i64 (aloneK n e.1 e.2.1 e.2.2)))) := by
  refine enter0 (vs := [_, _]) Try.func30 rfl Try.ntmps30 rfl ?_
  repeat' first
    | refine k_then ?_ | refine c_seq ?_ | refine c_region ?_ | refine s_nil ?_ | refine s_move (by exact rfl) (by exact rfl) ?_ | refine s_assign (by exact rfl) (by exact rfl) ?_ | refine s_fa (by exact rfl) (by exact rfl) ?_ | refine s_ld_box (by exact rfl) (by exact rfl) (by exact .head _) (by exact rfl) ?_ | refine s_lss (by exact rfl) (by exact rfl) (by exact rfl) ?_ | refine s_leq (by exact rfl) (by exact rfl) (by exact rfl) ?_ | refine s_eql (by exact rfl) (by exact rfl) (by exact rfl) ?_ | refine s_pick_t (by exact rfl) (by exact rfl) (by exact rfl) ?_ | refine s_pick_f (by exact rfl) (by exact rfl) (by exact rfl) ?_ | refine o_box (by exact rfl) (by exact rfl) (fun b => ?_) | refine c_skip ?_ | refine c_ret ?_ | refine k_then_ret ?_ | (refine c_cond_p (by exact rfl) (fun h => ?_) (fun h => ?_) <;> try (exfalso; omega)) | refine c_cond_t (by exact rfl) ?_ | (refine g_case (by exact rfl) (by exact rfl) (fun h => ?_) (fun h => ?_) <;> try (exfalso; omega)) | refine g_skip (by exact rfl) (by exact rfl) (by exact rfl) (by exact rfl) ?_ | refine w_move (by exact rfl) (by exact rfl) (by exact rfl) (by exact rfl) ?_ | refine w_fa (by exact rfl) (by exact rfl) (by exact rfl) (by exact rfl) ?_ | refine w_ld_box (by exact rfl) (by exact rfl) (by exact rfl) (by exact rfl) (by exact .head _) (by exact rfl) ?_ | refine w_lss (by exact rfl) (by exact rfl) (by exact rfl) (by exact rfl) (by exact rfl) ?_ | refine w_geq (by exact rfl) (by exact rfl) (by exact rfl) (by exact rfl) (by exact rfl) ?_
  all_goals refine ret1 [] rfl rfl rfl ⟨?_, rfl⟩
  all_goals (refine congrArg (Value.int .i64) ?_; simp only [aloneK]; repeat' split)
  all_goals omega
theorem below_ok (a b : E) (w : World) : Calls Try.prog 31 #[.agg (eV a).toArray, .agg (eV b).toArray] w (Post w No (Just (.bool (belowB a b)))) := by
  refine enter0 (vs := [_, _]) Try.func31 rfl Try.ntmps31 rfl ?_
  repeat' first
    | refine k_then ?_ | refine c_seq ?_ | refine c_region ?_ | refine s_nil ?_ | refine s_move (by exact rfl) (by exact rfl) ?_ | refine s_assign (by exact rfl) (by exact rfl) ?_ | refine s_fa (by exact rfl) (by exact rfl) ?_ | refine s_ld_box (by exact rfl) (by exact rfl) (by first | exact .head _ | exact .tail _ (.head _)) (by exact rfl) ?_ | refine s_lss (by exact rfl) (by exact rfl) (by exact rfl) ?_ | refine s_pick_t (by exact rfl) (by exact rfl) (by exact rfl) ?_ | refine s_pick_f (by exact rfl) (by exact rfl) (by exact rfl) ?_ | refine o_box (by exact rfl) (by exact rfl) (fun b => ?_) | refine c_ret ?_ | (refine g_case (by exact rfl) (by exact rfl) (fun h => ?_) (fun h => ?_) <;> try (exfalso; omega)) | refine g_skip (by exact rfl) (by exact rfl) (by exact rfl) (by exact rfl) ?_ | refine w_move (by exact rfl) (by exact rfl) (by exact rfl) (by exact rfl) ?_ | refine w_fa (by exact rfl) (by exact rfl) (by exact rfl) (by exact rfl) ?_ | refine w_ld_box (by exact rfl) (by exact rfl) (by exact rfl) (by exact rfl) (by first | exact .head _ | exact .tail _ (.head _)) (by exact rfl) ?_ | refine w_lss (by exact rfl) (by exact rfl) (by exact rfl) (by exact rfl) (by exact rfl) ?_ | refine w_eql (by exact rfl) (by exact rfl) (by exact rfl) (by exact rfl) (by exact rfl) ?_ | refine w_pick_t (by exact rfl) (by exact rfl) (by exact rfl) (by exact rfl) (by exact rfl) ?_ | refine w_pick_f (by exact rfl) (by exact rfl) (by exact rfl) (by exact rfl) (by exact rfl) ?_
  all_goals refine ret1 [] rfl rfl rfl ⟨?_, rfl⟩
  all_goals (refine congrArg Value.bool ?_; simp only [belowB])
  all_goals simp_all
theorem refRight_ok (n : Int) (v : Value) (es : List E) (w : World) (hs : Shp v es.length) (hr : RO w No v (esV es)) (hm : es.length < 4611686018427387904) :
    Calls Try.prog 15 #[.agg #[.int .i64 n, v]] w (Post w No (Just (.int .i64 (rightK n es)))) := by
  refine enter0 (vs := [_]) Try.func15 rfl Try.ntmps15 rfl ?_
  repeat' first
    | refine k_then ?_ | refine c_seq ?_ | refine c_region ?_ | refine s_nil ?_ | refine s_assign (by exact rfl) (by exact rfl) ?_ | refine s_fa (by exact rfl) (by exact rfl) ?_ | refine s_ld_box (by exact rfl) (by exact rfl) (by exact .head _) (by exact rfl) ?_ | refine s_len (by exact rfl) (by exact rfl) (by assumption) ?_ | refine o_box (by exact rfl) (by exact rfl) (fun b => ?_)
  refine s_call (by exact rfl) (by exact rfl) (fun w hs => many_ok _ _ w) ?_
  repeat' first
    | refine k_then ?_ | refine c_seq ?_ | refine c_region ?_ | refine s_nil ?_ | refine s_move (by exact rfl) (by exact rfl) ?_ | refine s_assign (by exact rfl) (by exact rfl) ?_ | refine s_neq (by exact rfl) (by exact rfl) (by exact rfl) ?_ | refine c_block ?_ | refine c_skip ?_ | refine c_ret ?_ | refine k_then_ret ?_ | (refine c_cond_p (by exact rfl) (fun h => ?_) (fun h => ?_) <;> try (exfalso; omega))
  · refine ret1 [] rfl rfl rfl ⟨congrArg (Value.int .i64) ?_, rfl⟩
    rw [rightK, if_neg h]
  · have h0 : sizesK n es.length = 0 := by simpa using h
    refine c_loop (fun k : Nat => k ≤ es.length ∧ scan n (prev es k) (es.drop k) = scan n none es) (fun k => [(1, .pointer (some ⟨b, 0, none⟩)), (4, .int .i64 (k : Int))]) (fun _ => [boxHP b 24 [.int .i64 n, v]]) (fun k => es.length - k) 0 [0] ⟨by omega, rfl⟩ rfl ⟨rfl, rfl, trivial⟩ ?_
    rintro k ⟨hk, hsc⟩
    by_cases hlt : k < es.length
    · obtain ⟨e, he⟩ : ∃ e, es[k]? = some e := ⟨_, List.getElem?_eq_getElem hlt⟩
      have hE := esV_at he
      obtain ⟨hE0, hE1, hE2⟩ := esV_get he
      rw [scan_at he] at hsc
      repeat' first
        | refine k_then ?_ | refine c_seq ?_ | refine c_region ?_ | refine s_nil ?_ | refine s_move (by exact rfl) (by exact rfl) ?_ | refine s_fa (by exact rfl) (by exact rfl) ?_ | refine s_ld_box (by exact rfl) (by exact rfl) (by exact .head _) (by exact rfl) ?_ | refine s_lss (by exact rfl) (by exact rfl) (by exact rfl) ?_ | refine s_len (by exact rfl) (by exact rfl) (by assumption) ?_ | refine c_block ?_ | refine c_skip ?_ | (refine c_cond_p (by exact rfl) (fun h => ?_) (fun h => ?_) <;> try (exfalso; omega))
      refine p_begin0 [(0, true), (1, true), (2, true), (3, true), (4, true), (5, true), (6, true), (7, false), (8, true)] (by kernel_rfl) ?_
      repeat' first
        | (refine p_at (by exact rfl) ?_
           first
            | refine t_move (by exact rfl) (by exact rfl) (by exact fun _ h => h) ?_ | refine t_fa (by exact rfl) (by exact rfl) (by exact fun _ h => h) ?_ | refine t_ld_box (by exact rfl) (by exact rfl) (by exact .head _) (by exact rfl) (by exact fun _ h => h) ?_ | refine t_idx (by exact rfl) (by exact rfl) (by exact rfl) (by assumption) (by first | assumption | omega) (by exact fun _ h => h) ?_ | refine t_ldk_ro (by exact rfl) (by exact rfl) (by assumption) (by decide) (by assumption) (by exact rfl) (by exact fun _ h => h) ?_)
      refine p_call (gd := none) (by exact rfl) rfl (by exact rfl) (fun w hs => edge_ok n e w) (by exact fun _ h => h) ?_
      repeat' first
        | refine p_nil ?_
        | (refine p_at (by exact rfl) ?_
           first
            | refine t_assign (by exact rfl) (by exact rfl) (by exact fun _ h => h) ?_)
      repeat' first
        | refine k_then ?_ | refine c_seq ?_ | refine c_region ?_ | refine s_nil ?_ | refine s_move (by exact rfl) (by exact rfl) ?_ | refine s_assign (by exact rfl) (by exact rfl) ?_ | refine s_neq (by exact rfl) (by exact rfl) (by exact rfl) ?_ | refine c_skip ?_ | refine c_ret ?_ | refine k_then_ret ?_ | refine k_blk_ret ?_ | (refine c_cond_p (by exact rfl) (fun h => ?_) (fun h => ?_) <;> try (exfalso; omega))
      · refine ret1 [] rfl rfl rfl ⟨congrArg (Value.int .i64) ?_, rfl⟩
        rw [rightK, if_pos h0, ← hsc, if_neg h]
      · refine p_begin0 [(0, true), (1, true), (2, true), (3, true), (4, true), (5, true), (6, true), (7, true), (8, true), (9, true), (10, true), (11, true), (12, true)] (by kernel_rfl) ?_
        repeat' first
          | refine p_nil ?_
          | (refine p_at (by exact rfl) ?_
             first
              | refine t_move (by exact rfl) (by exact rfl) (by exact fun _ h => h) ?_ | refine t_fa (by exact rfl) (by exact rfl) (by exact fun _ h => h) ?_ | refine t_ld_box (by exact rfl) (by exact rfl) (by exact .head _) (by exact rfl) (by exact fun _ h => h) ?_ | refine t_gtr (by exact rfl) (by exact rfl) (by exact rfl) (by exact fun _ h => h) ?_ | refine t_idx (by exact rfl) (by exact rfl) (by exact rfl) (by assumption) (by first | assumption | omega) (by exact fun _ h => h) ?_ | refine t_fap (by exact rfl) (by exact rfl) (by assumption) (by omega) (by exact fun _ h => h) ?_ | refine t_ld_ro (by exact rfl) (by exact rfl) (by assumption) (by assumption) (by exact fun _ h => h) ?_)
        repeat' first
          | refine k_then ?_ | refine c_seq ?_ | refine c_region ?_ | refine s_nil ?_ | refine s_assign (by exact rfl) (by exact rfl) ?_ | refine c_skip ?_ | refine c_ret ?_ | refine k_then_ret ?_ | refine k_blk_ret ?_ | (refine c_cond_p (by exact rfl) (fun h => ?_) (fun h => ?_) <;> try (exfalso; omega))
        · refine ret1 [] rfl rfl rfl ⟨congrArg (Value.int .i64) ?_, rfl⟩
          rw [rightK, if_pos h0, ← hsc, if_pos (by omega), if_pos h]
        · refine p_begin0 [(0, true), (1, true), (2, true), (3, true), (4, true), (5, true), (6, true), (7, true), (8, true), (9, true), (10, true), (11, true), (12, true), (13, true), (14, false), (15, true), (16, true)] (by kernel_rfl) ?_
          by_cases hk0 : k = 0
          · subst hk0
            repeat' first
              | refine p_nil ?_
              | (refine p_at (by exact rfl) ?_
                 first
                  | refine t_move (by exact rfl) (by exact rfl) (by exact fun _ h => h) ?_ | refine t_gtr (by exact rfl) (by exact rfl) (by exact rfl) (by exact fun _ h => h) ?_ | refine t_pick_f (by exact rfl) (by exact rfl) (by exact rfl) (by exact fun _ h => h) ?_ | (refine t_case (by exact rfl) (by exact rfl) (fun h => ?_) (fun h => ?_) <;> try (exfalso; omega)) | refine t_skip (by exact rfl) (by exact rfl) (by exact rfl) (by exact rfl) (by exact fun _ h => h) ?_ | refine t_skipl (by exact rfl) (by exact rfl) (by exact rfl) (by exact rfl) (by exact fun _ h => h) ?_)
            repeat' first
              | refine k_then ?_ | refine c_region ?_ | refine s_nil ?_ | refine s_move (by exact rfl) (by exact rfl) ?_ | refine s_assign (by exact rfl) (by exact rfl) ?_ | refine s_add (by exact rfl) (by exact rfl) (by exact rfl) (by omega) ?_ | refine c_skip ?_ | refine k_blk ?_ | refine c_cond_f (by exact rfl) ?_
            refine c_round 1 [0] (by exact rfl) (by exact ⟨rfl, rfl, trivial⟩) ⟨by omega, ?_⟩ (by omega)
            rw [← hsc, if_pos (by omega), if_neg (by omega)]
            simp only [prev, Nat.one_ne_zero, if_false, Nat.sub_self, he, if_true, Nat.zero_add]
          · obtain ⟨q, hq⟩ : ∃ q, es[k - 1]? = some q := ⟨_, List.getElem?_eq_getElem (by omega)⟩
            have hQ : ((esV es).drop (((k : Int) - 1).toNat * 3)).take 3 = eV q := by
              rw [show ((k : Int) - 1).toNat = k - 1 from by omega]
              exact esV_at hq
            have hpr : prev es k = some q := by rw [prev, if_neg hk0, hq]
            rw [hpr] at hsc
            repeat' first
              | (refine p_at (by exact rfl) ?_
                 first
                  | refine t_move (by exact rfl) (by exact rfl) (by exact fun _ h => h) ?_ | refine t_gtr (by exact rfl) (by exact rfl) (by exact rfl) (by exact fun _ h => h) ?_ | refine tw_move (by exact rfl) (by exact rfl) (by exact rfl) (by exact rfl) (by exact fun _ h => h) ?_ | refine tw_fa (by exact rfl) (by exact rfl) (by exact rfl) (by exact rfl) (by exact fun _ h => h) ?_ | refine tw_ld_box (by exact rfl) (by exact rfl) (by exact rfl) (by exact rfl) (by exact .head _) (by exact rfl) (by exact fun _ h => h) ?_ | refine tw_sub (by exact rfl) (by exact rfl) (by exact rfl) (by exact rfl) (by exact rfl) (by omega) (by exact fun _ h => h) ?_ | refine tw_idx (by exact rfl) (by exact rfl) (by exact rfl) (by exact rfl) (by exact rfl) (by assumption) (by first | assumption | omega) (by exact fun _ h => h) ?_ | refine tw_idxi (by exact rfl) (by exact rfl) (by exact rfl) (by exact rfl) (by exact rfl) (by assumption) (by first | assumption | omega) (by exact fun _ h => h) ?_ | refine tw_ldk_ro (by exact rfl) (by exact rfl) (by exact rfl) (by exact rfl) (by assumption) (by decide) (by assumption) (by exact rfl) (by exact fun _ h => h) ?_ | (refine t_case (by exact rfl) (by exact rfl) (fun h => ?_) (fun h => ?_) <;> try (exfalso; omega)))
            refine p_callw (by exact rfl) (by exact rfl) (by exact rfl) rfl (by exact rfl) (fun w hs => below_ok q e w) (by exact fun _ h => h) ?_
            have hb1 := orderK_below q e
            have hrg := orderK_range q e
            cases hbl : belowB q e
            · have ho : orderK q e ≠ -1 := fun hh => by rw [hb1.1.2 hh] at hbl; simp at hbl
              repeat' first
                | refine p_nil ?_
                | (refine p_at (by exact rfl) ?_
                   first
                    | refine t_pick_t (by exact rfl) (by exact rfl) (by exact rfl) (by exact fun _ h => h) ?_ | refine tw_not (by exact rfl) (by exact rfl) (by exact rfl) (by exact rfl) (by exact fun _ h => h) ?_)
              repeat' first
                | refine k_then ?_ | refine c_seq ?_ | refine c_cond_t (by exact rfl) ?_
              refine p_begin0 [(0, true), (1, true), (2, true), (3, true), (4, true), (5, true), (6, true), (7, true), (8, true), (9, true), (10, true), (11, false)] (by kernel_rfl) ?_
              repeat' first
                | (refine p_at (by exact rfl) ?_
                   first
                    | refine t_move (by exact rfl) (by exact rfl) (by exact fun _ h => h) ?_ | refine t_fa (by exact rfl) (by exact rfl) (by exact fun _ h => h) ?_ | refine t_ld_box (by exact rfl) (by exact rfl) (by exact .head _) (by exact rfl) (by exact fun _ h => h) ?_ | refine t_sub (by exact rfl) (by exact rfl) (by exact rfl) (by omega) (by exact fun _ h => h) ?_ | refine t_idx (by exact rfl) (by exact rfl) (by exact rfl) (by assumption) (by first | assumption | omega) (by exact fun _ h => h) ?_ | refine t_idxi (by exact rfl) (by exact rfl) (by exact rfl) (by assumption) (by first | assumption | omega) (by exact fun _ h => h) ?_ | refine t_ldk_ro (by exact rfl) (by exact rfl) (by assumption) (by decide) (by assumption) (by exact rfl) (by exact fun _ h => h) ?_)
              refine p_call (gd := none) (by exact rfl) rfl (by exact rfl) (fun w hs => below_ok e q w) (by exact fun _ h => h) ?_
              cases hbl2 : belowB e q
              · have ho2 : orderK q e ≠ 1 := fun hh => by rw [hb1.2.2 hh] at hbl2; simp at hbl2
                repeat' first
                  | refine p_nil ?_
                repeat' first
                  | refine k_then ?_ | refine c_seq ?_ | refine c_region ?_ | refine s_nil ?_ | refine s_assign (by exact rfl) (by exact rfl) ?_ | refine c_skip ?_ | refine c_ret ?_ | refine k_then_ret ?_ | refine k_blk_ret ?_ | refine c_cond_f (by exact rfl) ?_
                refine ret1 [] rfl rfl rfl ⟨congrArg (Value.int .i64) ?_, rfl⟩
                rw [rightK, if_pos h0, ← hsc, if_pos (by omega), if_neg (by omega)]
                dsimp only
                rw [if_pos (by omega)]
              · have ho2 := hb1.2.1 hbl2
                repeat' first
                  | refine p_nil ?_
                repeat' first
                  | refine k_then ?_ | refine c_seq ?_ | refine c_region ?_ | refine s_nil ?_ | refine s_assign (by exact rfl) (by exact rfl) ?_ | refine c_ret ?_ | refine k_then_ret ?_ | refine k_blk_ret ?_ | refine c_cond_t (by exact rfl) ?_
                refine ret1 [] rfl rfl rfl ⟨congrArg (Value.int .i64) ?_, rfl⟩
                rw [rightK, if_pos h0, ← hsc, if_pos (by omega), if_neg (by omega)]
                dsimp only
                rw [if_neg (by omega), if_pos (by omega)]
            · have ho := hb1.1.1 hbl
              repeat' first
                | refine p_nil ?_
                | (refine p_at (by exact rfl) ?_
                   first
                    | refine t_pick_t (by exact rfl) (by exact rfl) (by exact rfl) (by exact fun _ h => h) ?_ | refine tw_not (by exact rfl) (by exact rfl) (by exact rfl) (by exact rfl) (by exact fun _ h => h) ?_)
              repeat' first
                | refine k_then ?_ | refine c_region ?_ | refine s_nil ?_ | refine s_move (by exact rfl) (by exact rfl) ?_ | refine s_assign (by exact rfl) (by exact rfl) ?_ | refine s_add (by exact rfl) (by exact rfl) (by exact rfl) (by omega) ?_ | refine c_skip ?_ | refine k_blk ?_ | refine c_cond_f (by exact rfl) ?_
              refine c_round (k + 1) [0] (by exact rfl) (by exact ⟨rfl, rfl, trivial⟩) ⟨by omega, ?_⟩ (by omega)
              rw [← hsc, if_pos (by omega), if_neg (by omega)]
              simp only [prev, Nat.add_sub_cancel, he]
              rw [if_neg (by omega), if_neg (by omega), if_neg (by omega)]
    · repeat' first
        | refine k_then ?_ | refine c_seq ?_ | refine c_region ?_ | refine s_nil ?_ | refine s_move (by exact rfl) (by exact rfl) ?_ | refine s_assign (by exact rfl) (by exact rfl) ?_ | refine s_fa (by exact rfl) (by exact rfl) ?_ | refine s_ld_box (by exact rfl) (by exact rfl) (by exact .head _) (by exact rfl) ?_ | refine s_lss (by exact rfl) (by exact rfl) (by exact rfl) ?_ | refine s_len (by exact rfl) (by exact rfl) (by assumption) ?_ | refine c_exit ?_ | refine c_ret ?_ | refine k_then_exit ?_ | refine k_blk_eq ?_ | (refine c_cond_p (by exact rfl) (fun h => ?_) (fun h => ?_) <;> try (exfalso; omega))
      refine ret1 [] rfl rfl rfl ⟨congrArg (Value.int .i64) ?_, rfl⟩
      rw [rightK, if_pos h0, ← hsc, List.drop_eq_nil_of_le (by omega)]
      simp [scan]
theorem Ints_ok (a b : Value) (x y : List Int) (w : World) (ha : Shp a x.length) (hb : Shp b y.length) (hra : RO w No a (iV x)) (hrb : RO w No b (iV y)) :
    Calls Try.prog 12 #[a, b] w (Post w No (Just (.bool (decide (x = y))))) := by
  have hm := ha.1
  simp only [maxLen] at hm
  refine enter0 (vs := [_, _]) Try.func12 rfl Try.ntmps12 rfl ?_
  repeat' first
    | refine k_then ?_ | refine c_seq ?_ | refine c_region ?_ | refine s_nil ?_ | refine s_move (by exact rfl) (by exact rfl) ?_ | refine s_assign (by exact rfl) (by exact rfl) ?_ | refine s_neq (by exact rfl) (by exact rfl) (by exact rfl) ?_ | refine s_len (by exact rfl) (by exact rfl) (by assumption) ?_ | refine c_block ?_ | refine c_skip ?_ | refine c_ret ?_ | refine k_then_ret ?_ | (refine c_cond_p (by exact rfl) (fun h => ?_) (fun h => ?_) <;> try (exfalso; omega))
  · refine ret1 [] rfl rfl rfl ⟨congrArg Value.bool ?_, rfl⟩
    exact (decide_eq_false fun e => h (by rw [e])).symm
  · refine c_loop (fun k : Nat => k ≤ x.length ∧ x.take k = y.take k) (fun k => [(0, a), (1, b), (5, .int .i64 (k : Int))]) (fun _ => []) (fun k => x.length - k) 0 [] ⟨by omega, rfl⟩ rfl ⟨rfl, rfl, rfl, trivial⟩ ?_
    rintro k ⟨hk, hq⟩
    by_cases hlt : k < x.length
    · obtain ⟨c, hc⟩ : ∃ c, x[k]? = some c := ⟨_, List.getElem?_eq_getElem hlt⟩
      obtain ⟨d, hd⟩ : ∃ d, y[k]? = some d := ⟨_, List.getElem?_eq_getElem (by omega)⟩
      have h1 : (iV x)[k * 1]? = some (.int .i64 c) := by simp [iV, hc]
      have h2 : (iV y)[k * 1]? = some (.int .i64 d) := by simp [iV, hd]
      repeat' first
        | refine k_then ?_ | refine c_seq ?_ | refine c_region ?_ | refine s_nil ?_ | refine s_move (by exact rfl) (by exact rfl) ?_ | refine s_lss (by exact rfl) (by exact rfl) (by exact rfl) ?_ | refine s_len (by exact rfl) (by exact rfl) (by assumption) ?_ | refine c_block ?_ | refine c_skip ?_ | (refine c_cond_p (by exact rfl) (fun h => ?_) (fun h => ?_) <;> try (exfalso; omega))
      refine p_begin0 [(0, true), (1, true), (2, true), (3, true), (4, true), (5, true), (6, true), (7, true), (8, true)] (by kernel_rfl) ?_
      repeat' first
        | refine p_nil ?_
        | (refine p_at (by exact rfl) ?_
           first
            | refine t_move (by exact rfl) (by exact rfl) (by exact fun _ h => h) ?_ | refine t_neq (by exact rfl) (by exact rfl) (by exact rfl) (by exact fun _ h => h) ?_ | refine t_idx (by exact rfl) (by exact rfl) (by exact rfl) (by assumption) (by first | assumption | omega) (by exact fun _ h => h) ?_ | refine t_ld_ro (by exact rfl) (by exact rfl) (by assumption) (by assumption) (by exact fun _ h => h) ?_)
      repeat' first
        | refine k_then ?_ | refine c_seq ?_ | refine c_region ?_ | refine s_nil ?_ | refine s_move (by exact rfl) (by exact rfl) ?_ | refine s_assign (by exact rfl) (by exact rfl) ?_ | refine s_add (by exact rfl) (by exact rfl) (by exact rfl) (by omega) ?_ | refine c_skip ?_ | refine c_ret ?_ | refine k_then_ret ?_ | refine k_blk ?_ | refine k_blk_ret ?_ | (refine c_cond_p (by exact rfl) (fun h => ?_) (fun h => ?_) <;> try (exfalso; omega))
      · refine ret1 [] rfl rfl rfl ⟨congrArg Value.bool ?_, rfl⟩
        refine (decide_eq_false fun e => ?_).symm
        subst e
        rw [hc] at hd
        simp at hd
        omega
      · refine c_round (k + 1) [] (by exact rfl) (by exact ⟨rfl, rfl, rfl, trivial⟩) ⟨by omega, ?_⟩ (by omega)
        have : c = d := by omega
        subst this
        rw [List.take_add_one, List.take_add_one, hq, hc, hd]
    · repeat' first
        | refine k_then ?_ | refine c_seq ?_ | refine c_region ?_ | refine s_nil ?_ | refine s_move (by exact rfl) (by exact rfl) ?_ | refine s_assign (by exact rfl) (by exact rfl) ?_ | refine s_lss (by exact rfl) (by exact rfl) (by exact rfl) ?_ | refine s_len (by exact rfl) (by exact rfl) (by assumption) ?_ | refine c_exit ?_ | refine c_ret ?_ | refine k_then_exit ?_ | refine k_blk_eq ?_ | (refine c_cond_p (by exact rfl) (fun h => ?_) (fun h => ?_) <;> try (exfalso; omega))
      refine ret1 [] rfl rfl rfl ⟨congrArg Value.bool ?_, rfl⟩
      refine (decide_eq_true ?_).symm
      rw [List.take_of_length_le (by omega), List.take_of_length_le (by omega)] at hq
      exact hq
theorem Light_ok (n : Int) (v : Value) (m : Nat) (k : Int) (w : World) (hs : Shp v m) (hk : 0 ≤ k ∧ k < 1000000) :
    Calls Try.prog 6 #[.agg #[.int .i64 n, v], .int .i64 k] w (Post w No (Just (.bool (decide (n ≤ k) && decide ((m : Int) ≤ 4 * k))))) := by
  refine enter0 (vs := [_, _]) Try.func6 rfl Try.ntmps6 rfl ?_
  repeat' first
    | refine k_then ?_ | refine c_seq ?_ | refine c_region ?_ | refine s_nil ?_ | refine s_move (by exact rfl) (by exact rfl) ?_ | refine s_assign (by exact rfl) (by exact rfl) ?_ | refine s_fa (by exact rfl) (by exact rfl) ?_ | refine s_ld_box (by exact rfl) (by exact rfl) (by exact .head _) (by exact rfl) ?_ | refine s_leq (by exact rfl) (by exact rfl) (by exact rfl) ?_ | refine s_pick_t (by exact rfl) (by exact rfl) (by exact rfl) ?_ | refine s_pick_f (by exact rfl) (by exact rfl) (by exact rfl) ?_ | refine o_box (by exact rfl) (by exact rfl) (fun b => ?_) | refine c_ret ?_ | (refine g_case (by exact rfl) (by exact rfl) (fun h => ?_) (fun h => ?_) <;> try (exfalso; omega)) | refine g_skip (by exact rfl) (by exact rfl) (by exact rfl) (by exact rfl) ?_ | refine w_move (by exact rfl) (by exact rfl) (by exact rfl) (by exact rfl) ?_ | refine w_fa (by exact rfl) (by exact rfl) (by exact rfl) (by exact rfl) ?_ | refine w_ld_box (by exact rfl) (by exact rfl) (by exact rfl) (by exact rfl) (by exact .head _) (by exact rfl) ?_ | refine w_leq (by exact rfl) (by exact rfl) (by exact rfl) (by exact rfl) (by exact rfl) ?_ | refine w_mul (by exact rfl) (by exact rfl) (by exact rfl) (by exact rfl) (by exact rfl) (by omega) ?_ | refine w_len (by exact rfl) (by exact rfl) (by exact rfl) (by exact rfl) (by assumption) ?_
  all_goals refine ret1 [] rfl rfl rfl ⟨?_, rfl⟩
  all_goals refine congrArg Value.bool ?_
  · rw [decide_eq_true h, Bool.true_and]
  · rw [decide_eq_false h, Bool.false_and]
end Go.Proofs.Ytpajjnkmaebhcab
end
section
namespace Fil
theorem getD_set {α : Type} (l : List α) (u v : Nat) (x d : α) : (l.set u x).getD v d = if u = v ∧ u < l.length then x else l.getD v d := by
  simp only [List.getD_eq_getElem?_getD, List.getElem?_set]
  by_cases h : u = v
  · subst h
    by_cases h2 : u < l.length
    · simp [h2]
    · simp [h2]
  · simp [h]
/-- c is one on both ends of each edge -/
def OnEdges (N : Nat) (A : Nat → List Nat) (c : Nat → Nat) : Prop := ∀ v, v < N → ∀ u ∈ A v, c u = c v
structure Adj (N : Nat) (A : Nat → List Nat) : Prop where
  lt : ∀ v, v < N → ∀ u ∈ A v, u < N
  sym : ∀ v u, v < N → u ∈ A v → v ∈ A u
structure Bfs (N : Nat) (A : Nat → List Nat) (first : Nat) (met : List Bool) (out : List Nat) (lab : Nat → Nat) (line : List Nat) : Prop where
  lm : met.length = N
  lo : out.length = N
  line_lt : ∀ v ∈ line, v < N
  line_met : ∀ v ∈ line, met.getD v false = true
  line_lab : ∀ v ∈ line, lab v = first
  order : line.Pairwise fun a b => out.getD a 0 ≤ out.getD b 0
  head : ∀ a, line.head? = some a → ∀ b ∈ line, out.getD b 0 ≤ out.getD a 0 + 1
  done : ∀ w, w < N → met.getD w false = true → w ∉ line → ∀ u ∈ A w, met.getD u false = true ∧ lab u = lab w ∧ out.getD u 0 ≤ out.getD w 0 + 1
  low : ∀ w, w < N → met.getD w false = true → w ∉ line → lab w = first → ∀ b ∈ line, out.getD w 0 ≤ out.getD b 0
  up : ∀ v k, v < N → met.getD v false = true → out.getD v 0 = k + 1 → ∃ u ∈ A v, met.getD u false = true ∧ out.getD u 0 = k
  root : ∀ v, v < N → met.getD v false = true → (out.getD v 0 = 0 ↔ lab v = v)
  zero : ∀ v, met.getD v false = false → out.getD v 0 = 0
  lab_le : ∀ v, v < N → met.getD v false = true → lab v ≤ v
  lab_met : ∀ v, v < N → met.getD v false = true → met.getD (lab v) false = true ∧ lab (lab v) = lab v
  conn : ∀ v, v < N → met.getD v false = true → ∀ c, OnEdges N A c → c v = c (lab v)
  below : ∀ w, w < first → met.getD w false = true
/-- met, from the current one -/
def Seen (A : Nat → List Nat) (first : Nat) (met : List Bool) (out : List Nat) (lab : Nat → Nat) (v j : Nat) : Prop :=
  ∀ u ∈ (A v).take j, met.getD u false = true ∧ lab u = first ∧ out.getD u 0 ≤ out.getD v 0 + 1
theorem Bfs.old {N : Nat} {A : Nat → List Nat} {first v u j : Nat} {met : List Bool} {out : List Nat} {lab : Nat → Nat} {rest : List Nat} (hA : Adj N A) (h : Bfs N A first met out lab (v :: rest)) (hs : Seen A first met out lab v j) (hu : (A v)[j]? = some u) (hm : met.getD u false = true) : Seen A first met out lab v (j + 1) := by
  have hv : v < N := h.line_lt v (by simp)
  have huA : u ∈ A v := List.mem_of_getElem? hu
  have hun := hA.lt v hv u huA
  intro x hx
  rw [List.take_add_one, hu] at hx
  rcases List.mem_append.1 hx with hx | hx
  · exact hs x hx
  · obtain rfl : x = u := by simpa using hx
    refine ⟨hm, ?_⟩
    by_cases hl : x ∈ v :: rest
    · exact ⟨h.line_lab x hl, h.head v rfl x hl⟩
    · obtain ⟨_, h2, _⟩ := h.done x hun hm hl v (hA.sym v x hv huA)
      have hv1 := h.line_lab v (by simp)
      have hf : lab x = first := by rw [← h2, hv1]
      refine ⟨hf, ?_⟩
      have := h.low x hun hm hl hf v (by simp)
      omega
theorem Bfs.new {N : Nat} {A : Nat → List Nat} {first v u j : Nat} {met : List Bool} {out : List Nat} {lab : Nat → Nat} {rest : List Nat} (hA : Adj N A) (h : Bfs N A first met out lab (v :: rest)) (hs : Seen A first met out lab v j) (hu : (A v)[j]? = some u) (hm : met.getD u false = false) :
    Bfs N A first (met.set u true) (out.set u (out.getD v 0 + 1)) (fun x => if x = u then first else lab x) (v :: rest ++ [u]) ∧ Seen A first (met.set u true) (out.set u (out.getD v 0 + 1)) (fun x => if x = u then first else lab x) v (j + 1) := by
  have hv : v < N := h.line_lt v (by simp)
  have hvm := h.line_met v (by simp)
  have huA : u ∈ A v := List.mem_of_getElem? hu
  have hun := hA.lt v hv u huA
  have hul : u < met.length := by rw [h.lm]; exact hun
  have hulo : u < out.length := by rw [h.lo]; exact hun
  have hne : ∀ x, met.getD x false = true → x ≠ u := fun x hx e => by subst e; rw [hm] at hx; simp at hx
  have hnv := hne v hvm
  have M : ∀ x, (met.set u true).getD x false = if u = x then true else met.getD x false := fun x => by rw [getD_set]; simp [hul]
  have O : ∀ x, (out.set u (out.getD v 0 + 1)).getD x 0 = if u = x then out.getD v 0 + 1 else out.getD x 0 := fun x => by rw [getD_set]; simp [hulo]
  have Om : ∀ x, met.getD x false = true → (out.set u (out.getD v 0 + 1)).getD x 0 = out.getD x 0 := fun x hx => by rw [O, if_neg (Ne.symm (hne x hx))]
  have Mm : ∀ x, met.getD x false = true → (met.set u true).getD x false = true := fun x hx => by rw [M]; split <;> simp_all
  have Mt : ∀ x, (met.set u true).getD x false = true → x = u ∨ met.getD x false = true := fun x hx => by
    rw [M] at hx
    split at hx
    · left; rename_i e; exact e.symm
    · exact .inr hx
  have hlabv := h.line_lab v (by simp)
  have hfirst := h.lab_met v hv hvm
  rw [hlabv] at hfirst
  have hfu : first ≠ u := hne _ hfirst.1
  have hfle : first ≤ u := by
    rcases Nat.lt_or_ge u first with hlt | hge
    · have := h.below u hlt; rw [hm] at this; simp at this
    · exact hge
  refine ⟨⟨by simp [h.lm], by simp [h.lo], ?_, ?_, ?_, ?_, ?_, ?_, ?_, ?_, ?_, ?_, ?_, ?_, ?_, ?_⟩, ?_⟩
  · intro x hx
    rcases List.mem_append.1 hx with hx | hx
    · exact h.line_lt x hx
    · obtain rfl : x = u := by simpa using hx
      exact hun
  · intro x hx
    rcases List.mem_append.1 hx with hx | hx
    · exact Mm x (h.line_met x hx)
    · obtain rfl : x = u := by simpa using hx
      rw [M, if_pos rfl]
  · intro x hx
    rcases List.mem_append.1 hx with hx | hx
    · simp [hne x (h.line_met x hx), h.line_lab x hx]
    · obtain rfl : x = u := by simpa using hx
      simp
  · refine List.pairwise_append.2 ⟨?_, by simp, ?_⟩
    · refine h.order.imp_of_mem fun {a b} ha hb hab => ?_
      rw [Om a (h.line_met a ha), Om b (h.line_met b hb)]
      exact hab
    · intro a ha b hb
      obtain rfl : b = u := by simpa using hb
      rw [Om a (h.line_met a ha), O b, if_pos rfl]
      exact h.head v rfl a ha
  · intro a ha b hb
    obtain rfl : v = a := by simpa using ha
    rw [Om v hvm]
    rcases List.mem_append.1 hb with hb | hb
    · rw [Om b (h.line_met b hb)]
      exact h.head v rfl b hb
    · obtain rfl : b = u := by simpa using hb
      rw [O b, if_pos rfl]
      exact Nat.le_refl _
  · intro w hw hwm hwl x hx
    have hwu : w ≠ u := fun e => hwl (by simp [e])
    have hwm' : met.getD w false = true := (Mt w hwm).resolve_left hwu
    obtain ⟨h1, h2, h3⟩ := h.done w hw hwm' (fun hh => hwl (List.mem_append.2 (.inl hh))) x hx
    refine ⟨Mm x h1, ?_, ?_⟩
    · simp [hne x h1, hwu, h2]
    · rw [Om x h1, Om w hwm']; exact h3
  · intro w hw hwm hwl hwf b hb
    have hwu : w ≠ u := fun e => hwl (by simp [e])
    have hwm' : met.getD w false = true := (Mt w hwm).resolve_left hwu
    have hwl' : w ∉ v :: rest := fun hh => hwl (List.mem_append.2 (.inl hh))
    have hwf' : lab w = first := by simpa [hwu] using hwf
    rw [Om w hwm']
    rcases List.mem_append.1 hb with hb | hb
    · rw [Om b (h.line_met b hb)]
      exact h.low w hw hwm' hwl' hwf' b hb
    · obtain rfl : b = u := by simpa using hb
      rw [O b, if_pos rfl]
      have := h.low w hw hwm' hwl' hwf' v (by simp)
      omega
  · intro x k hx hxm hxk
    rcases Mt x hxm with rfl | hxm'
    · rw [O x, if_pos rfl] at hxk
      exact ⟨v, hA.sym v x hv huA, Mm v hvm, by rw [Om v hvm]; omega⟩
    · rw [Om x hxm'] at hxk
      obtain ⟨y, hy, hym, hyk⟩ := h.up x k hx hxm' hxk
      exact ⟨y, hy, Mm y hym, by rw [Om y hym]; exact hyk⟩
  · intro x hx hxm
    rcases Mt x hxm with rfl | hxm'
    · rw [O x, if_pos rfl, if_pos rfl]
      exact ⟨fun e => by omega, fun e => absurd e hfu⟩
    · rw [Om x hxm', if_neg (hne x hxm')]
      exact h.root x hx hxm'
  · intro x hx
    rw [M] at hx
    rw [O]
    split at hx
    · simp at hx
    · rename_i e
      rw [if_neg e]
      exact h.zero x hx
  · intro x hx hxm
    rcases Mt x hxm with rfl | hxm'
    · simpa using hfle
    · simpa [hne x hxm'] using h.lab_le x hx hxm'
  · intro x hx hxm
    rcases Mt x hxm with rfl | hxm'
    · simp only [if_true]
      refine ⟨Mm _ hfirst.1, ?_⟩
      rw [if_neg hfu]
      exact hfirst.2
    · obtain ⟨h1, h2⟩ := h.lab_met x hx hxm'
      rw [if_neg (hne x hxm')]
      refine ⟨Mm _ h1, ?_⟩
      rw [if_neg (hne _ h1)]
      exact h2
  · intro x hx hxm c hc
    rcases Mt x hxm with rfl | hxm'
    · rw [if_pos rfl, hc v hv x huA, ← hlabv]
      exact h.conn v hv hvm c hc
    · rw [if_neg (hne x hxm')]
      exact h.conn x hx hxm' c hc
  · intro w hw
    exact Mm w (h.below w hw)
  · intro x hx
    rw [List.take_add_one, hu] at hx
    rcases List.mem_append.1 hx with hx | hx
    · obtain ⟨h1, h2, h3⟩ := hs x hx
      refine ⟨Mm x h1, by simp [hne x h1, h2], ?_⟩
      rw [Om x h1, Om v hvm]; exact h3
    · obtain rfl : x = u := by simpa using hx
      refine ⟨by rw [M, if_pos rfl], by simp, ?_⟩
      rw [O x, if_pos rfl, Om v hvm]
      exact Nat.le_refl _
/-- the current one is done -/
theorem Bfs.pop {N : Nat} {A : Nat → List Nat} {first v : Nat} {met : List Bool} {out : List Nat} {lab : Nat → Nat} {rest : List Nat} (h : Bfs N A first met out lab (v :: rest)) (hs : Seen A first met out lab v (A v).length) : Bfs N A first met out lab rest := by
  rw [Seen, List.take_length] at hs
  have hv := h.line_lt v (by simp)
  have hvl := h.line_lab v (by simp)
  obtain ⟨ho1, ho2⟩ := List.pairwise_cons.1 h.order
  refine { h with line_lt := fun x hx => h.line_lt x (by simp [hx]), line_met := fun x hx => h.line_met x (by simp [hx]), line_lab := fun x hx => h.line_lab x (by simp [hx]), order := ho2, head := ?_, done := ?_, low := ?_ }
  · intro a ha b hb
    have h1 := h.head v rfl b (by simp [hb])
    have h2 := ho1 a (List.mem_of_mem_head? ha)
    omega
  · intro w hw hwm hwl u hu
    by_cases hwv : w = v
    · subst hwv
      obtain ⟨h1, h2, h3⟩ := hs u hu
      exact ⟨h1, by rw [h2, hvl], h3⟩
    · exact h.done w hw hwm (by simp [hwv, hwl]) u hu
  · intro w hw hwm hwl hwf b hb
    by_cases hwv : w = v
    · subst hwv; exact ho1 b hb
    · exact h.low w hw hwm (by simp [hwv, hwl]) hwf b (by simp [hb])
/-- the next one was met already -/
theorem Bfs.next {N : Nat} {A : Nat → List Nat} {first : Nat} {met : List Bool} {out : List Nat} {lab : Nat → Nat} (h : Bfs N A first met out lab []) (hm : met.getD first false = true) : Bfs N A (first + 1) met out lab [] :=
  { h with
    line_lab := fun v hv => by simp at hv
    low := fun w hw hwm hwl hwf b hb => by simp at hb
    below := fun w hw => by
      rcases Nat.lt_or_ge w first with hlt | hge
      · exact h.below w hlt
      · obtain rfl : w = first := by omega
        exact hm }
/-- .. or was not -/
theorem Bfs.start {N : Nat} {A : Nat → List Nat} {first : Nat} {met : List Bool} {out : List Nat} {lab : Nat → Nat} (h : Bfs N A first met out lab []) (hf : first < N) (hm : met.getD first false = false) : Bfs N A first (met.set first true) out (fun x => if x = first then first else lab x) [first] := by
  have hul : first < met.length := by rw [h.lm]; exact hf
  have hne : ∀ x, met.getD x false = true → x ≠ first := fun x hx e => by subst e; rw [hm] at hx; simp at hx
  have M : ∀ x, (met.set first true).getD x false = if first = x then true else met.getD x false := fun x => by rw [getD_set]; simp [hul]
  have Mm : ∀ x, met.getD x false = true → (met.set first true).getD x false = true := fun x hx => by rw [M]; split <;> simp_all
  have Mt : ∀ x, (met.set first true).getD x false = true → x = first ∨ met.getD x false = true := fun x hx => by
    rw [M] at hx
    split at hx
    · left; rename_i e; exact e.symm
    · exact .inr hx
  refine ⟨by simp [h.lm], h.lo, ?_, ?_, ?_, by simp, ?_, ?_, ?_, ?_, ?_, ?_, ?_, ?_, ?_, ?_⟩
  · intro x hx
    obtain rfl : x = first := by simpa using hx
    exact hf
  · intro x hx
    obtain rfl : x = first := by simpa using hx
    rw [M, if_pos rfl]
  · intro x hx
    obtain rfl : x = first := by simpa using hx
    simp
  · intro a ha b hb
    obtain rfl : first = a := by simpa using ha
    obtain rfl : b = first := by simpa using hb
    omega
  · intro w hw hwm hwl x hx
    have hwu : w ≠ first := fun e => hwl (by simp [e])
    have hwm' : met.getD w false = true := (Mt w hwm).resolve_left hwu
    obtain ⟨h1, h2, h3⟩ := h.done w hw hwm' (by simp) x hx
    exact ⟨Mm x h1, by simp [hne x h1, hwu, h2], h3⟩
  · intro w hw hwm hwl hwf b hb
    have hwu : w ≠ first := fun e => hwl (by simp [e])
    have hwm' : met.getD w false = true := (Mt w hwm).resolve_left hwu
    have hwf' : lab w = first := by simpa [hwu] using hwf
    have := (h.lab_met w hw hwm').1
    rw [hwf', hm] at this
    simp at this
  · intro x k hx hxm hxk
    rcases Mt x hxm with rfl | hxm'
    · rw [h.zero x hm] at hxk; omega
    · obtain ⟨y, hy, hym, hyk⟩ := h.up x k hx hxm' hxk
      exact ⟨y, hy, Mm y hym, hyk⟩
  · intro x hx hxm
    rcases Mt x hxm with rfl | hxm'
    · simp [-List.getD_eq_getElem?_getD, h.zero x hm]
    · rw [if_neg (hne x hxm')]
      exact h.root x hx hxm'
  · intro x hx
    rw [M] at hx
    split at hx
    · simp at hx
    · exact h.zero x hx
  · intro x hx hxm
    rcases Mt x hxm with rfl | hxm'
    · simp
    · simpa [hne x hxm'] using h.lab_le x hx hxm'
  · intro x hx hxm
    rcases Mt x hxm with rfl | hxm'
    · simp [-List.getD_eq_getElem?_getD, M]
    · obtain ⟨h1, h2⟩ := h.lab_met x hx hxm'
      rw [if_neg (hne x hxm')]
      refine ⟨Mm _ h1, ?_⟩
      rw [if_neg (hne _ h1)]
      exact h2
  · intro x hx hxm c hc
    rcases Mt x hxm with rfl | hxm'
    · rw [if_pos rfl]
    · rw [if_neg (hne x hxm')]
      exact h.conn x hx hxm' c hc
  · intro w hw
    exact Mm w (h.below w hw)
theorem Bfs.init (N : Nat) (A : Nat → List Nat) : Bfs N A 0 (List.replicate N false) (List.replicate N 0) (fun _ => 0) [] := by
  have hf : ∀ x, (List.replicate N false).getD x false = false := fun x => by
    simp only [List.getD_eq_getElem?_getD, List.getElem?_replicate]; split <;> rfl
  refine ⟨by simp, by simp, by simp, by simp, by simp, by simp, by simp, ?_, by simp, ?_, ?_, ?_, ?_, ?_, ?_, fun w hw => by omega⟩
  · intro w hw hm; rw [hf] at hm; simp at hm
  · intro w k hw hm; rw [hf] at hm; simp at hm
  · intro w hw hm; rw [hf] at hm; simp at hm
  · intro v _
    simp only [List.getD_eq_getElem?_getD, List.getElem?_replicate]; split <;> rfl
  · intro w hw hm; rw [hf] at hm; simp at hm
  · intro w hw hm; rw [hf] at hm; simp at hm
  · intro w hw hm; rw [hf] at hm; simp at hm
/-- levels, and the least one that each hangs together with -/
structure Lev (N : Nat) (A : Nat → List Nat) (o : Nat → Nat) (lab : Nat → Nat) : Prop where
  edge : ∀ w, w < N → ∀ u ∈ A w, lab u = lab w ∧ o u ≤ o w + 1
  up : ∀ v k, v < N → o v = k + 1 → ∃ u ∈ A v, o u = k
  root : ∀ v, v < N → (o v = 0 ↔ lab v = v)
  le : ∀ v, v < N → lab v ≤ v
  idem : ∀ v, v < N → lab (lab v) = lab v
  conn : ∀ v, v < N → ∀ c, OnEdges N A c → c v = c (lab v)
theorem Bfs.lev {N : Nat} {A : Nat → List Nat} {met : List Bool} {out : List Nat} {lab : Nat → Nat} (h : Bfs N A N met out lab []) : Lev N A (fun v => out.getD v 0) lab where
  edge w hw u hu := (h.done w hw (h.below w hw) (by simp) u hu).2
  up v k hv hk := (h.up v k hv (h.below v hv) hk).imp fun u hu => ⟨hu.1, hu.2.2⟩
  root v hv := h.root v hv (h.below v hv)
  le v hv := h.lab_le v hv (h.below v hv)
  idem v hv := (h.lab_met v hv (h.below v hv)).2
  conn v hv := h.conn v hv (h.below v hv)
/-- how many were not met -/
def unmet (met : List Bool) : Nat := met.countP (fun b => !b)
theorem unmet_set {met : List Bool} {u : Nat} (hu : u < met.length) (h : met.getD u false = false) : unmet (met.set u true) + 1 = unmet met := by
  induction met generalizing u with
  | nil => simp at hu
  | cons b l ih =>
    cases u with
    | zero =>
      obtain rfl : b = false := by simpa using h
      simp [unmet]
    | succ u =>
      have := ih (u := u) (by simpa using hu) (by simpa using h)
      simp only [unmet, List.set_cons_succ, List.countP_cons] at *
      omega
end Fil
end
section
namespace Fil
def okE (n : Int) (e : E) : Prop := 0 ≤ e.1 ∧ e.1 < e.2.1 ∧ e.2.1 < n ∧ -2147483648 < e.2.2 ∧ e.2.2 < 2147483648
def ltE (a b : E) : Prop := a.1 < b.1 ∨ a.1 = b.1 ∧ a.2.1 < b.2.1
structure RightG (n : Int) (es : List E) : Prop where
  lo : 0 ≤ n
  hi : n ≤ 1048576
  many : es.length ≤ 4194304
  ok : ∀ e ∈ es, okE n e
  sorted : es.Pairwise ltE
theorem ltE_trans {a b c : E} (h : ltE a b) (h' : ltE b c) : ltE a c := by
  simp only [ltE] at *; omega
theorem orderK_lt {a b : E} : orderK a b ≠ 0 ∧ orderK a b ≠ 1 ↔ ltE a b := by
  simp only [orderK, cmpK, ltE]
  (repeat' split) <;> omega
theorem aloneK_ok {n : Int} {e : E} : aloneK n e.1 e.2.1 e.2.2 = 0 ∧ ¬ e.2.1 < e.1 ↔ okE n e := by
  simp only [aloneK, okE]
  (repeat' split) <;> omega
theorem scan_iff {n : Int} : ∀ (es : List E) (p : Option E), scan n p es = 0 ↔ (∀ e ∈ es, okE n e) ∧ es.Pairwise ltE ∧ ∀ q, p = some q → ∀ e, es.head? = some e → ltE q e
  | [], p => by simp [scan]
  | e :: r, p => by
    have ih := scan_iff (n := n) r (some e)
    have key : scan n p (e :: r) = 0 ↔ okE n e ∧ (∀ q, p = some q → ltE q e) ∧ scan n (some e) r = 0 := by
      rw [← aloneK_ok]
      cases p with
      | none =>
        simp only [scan]
        (repeat' split) <;> simp_all
      | some q =>
        simp only [scan, Option.some.injEq, forall_eq', ← orderK_lt]
        (repeat' split) <;> simp_all
    rw [key, ih]
    constructor
    · rintro ⟨h1, h2, h3, h4, h5⟩
      refine ⟨fun x hx => (List.mem_cons.1 hx).elim (fun h => h ▸ h1) (h3 x), List.pairwise_cons.2 ⟨?_, h4⟩, fun q hq e' he' => ?_⟩
      · cases r with
        | nil => simp
        | cons x r =>
          have hx := h5 e rfl x rfl
          intro y hy
          rcases List.mem_cons.1 hy with rfl | hy
          · exact hx
          · exact ltE_trans hx ((List.pairwise_cons.1 h4).1 y hy)
      · obtain rfl : e = e' := by simpa using he'
        exact h2 q hq
    · rintro ⟨h1, h2, h3⟩
      obtain ⟨h4, h5⟩ := List.pairwise_cons.1 h2
      refine ⟨h1 e (by simp), fun q hq => h3 q hq e rfl, fun x hx => h1 x (by simp [hx]), h5, fun q hq y hy => ?_⟩
      obtain rfl : e = q := by simpa using hq
      exact h4 y (List.mem_of_mem_head? hy)
theorem right_iff {n : Int} {es : List E} : rightK n es = 0 ↔ RightG n es := by
  have hs : sizesK n es.length = 0 ↔ 0 ≤ n ∧ n ≤ 1048576 ∧ es.length ≤ 4194304 := by
    simp only [sizesK]
    (repeat' split) <;> omega
  rw [rightK]
  split
  · rename_i h
    obtain ⟨h1, h2, h3⟩ := hs.1 h
    rw [scan_iff]
    exact ⟨fun ⟨a, b, _⟩ => ⟨h1, h2, h3, a, b⟩, fun h => ⟨h.ok, h.sorted, fun q hq => by simp at hq⟩⟩
  · rename_i h
    exact ⟨fun h' => absurd h' h, fun h' => absurd (hs.2 ⟨h'.lo, h'.hi, h'.many⟩) h⟩
/-- edges, by numbers of vertices -/
def tn (es : List E) : List (Nat × Nat) := es.map fun e => (e.1.toNat, e.2.1.toNat)
/-- next to u, as the edges come -/
def nb (l : List (Nat × Nat)) (u : Nat) : List Nat := l.filterMap fun e => if e.1 = u then some e.2 else if e.2 = u then some e.1 else none
def nears (N : Nat) (l : List (Nat × Nat)) : List (List Nat) := (List.range N).map (nb l)
def nearS (l : List (Nat × Nat)) (u : Nat) : List Nat := (nb l u).mergeSort fun x y => decide (x ≤ y)
theorem nb_snoc (l : List (Nat × Nat)) (e : Nat × Nat) (u : Nat) : nb (l ++ [e]) u = nb l u ++ (if e.1 = u then [e.2] else if e.2 = u then [e.1] else []) := by
  simp only [nb, List.filterMap_append, List.filterMap_cons, List.filterMap_nil]
  split <;> (try split) <;> simp_all <;> split <;> simp_all
/-- one edge more -/
theorem nears_snoc {N : Nat} {l : List (Nat × Nat)} {u v : Nat} (hu : u < N) (hv : v < N) (hne : u ≠ v) : nears N (l ++ [(u, v)]) = ((nears N l).set u (nb l u ++ [v])).set v (nb l v ++ [u]) := by
  apply List.ext_getElem?
  intro k
  simp only [nears, List.getElem?_set, List.getElem?_map, List.length_set, List.length_map, List.length_range]
  by_cases hk : k < N
  · rw [List.getElem?_eq_getElem (by simpa using hk)]
    simp only [List.getElem_range, Option.map_some, nb_snoc]
    by_cases h1 : u = k
    · subst h1
      simp [Ne.symm hne, hu]
    · by_cases h2 : v = k
      · subst h2
        simp [hv, h1]
      · simp [h1, h2]
  · rw [List.getElem?_eq_none (by simpa using hk)]
    have h1 : u ≠ k := by omega
    have h2 : v ≠ k := by omega
    simp [h1, h2]
theorem nb_length (l : List (Nat × Nat)) (u : Nat) : (nb l u).length ≤ l.length := List.length_filterMap_le _ _
theorem nears_get {N : Nat} {l : List (Nat × Nat)} {u : Nat} (hu : u < N) : (nears N l)[u]? = some (nb l u) := by simp [nears, hu]
theorem nears_zero (N : Nat) : nears N [] = List.replicate N [] := by
  have : nb [] = fun _ => [] := rfl
  rw [nears, this, List.map_const', List.length_range]
theorem tn_take {es : List E} {k : Nat} {e : E} (he : es[k]? = some e) : tn (es.take (k + 1)) = tn (es.take k) ++ [(e.1.toNat, e.2.1.toNat)] := by
  rw [List.take_add_one, he]; simp [tn]
/-- sorted up to i -/
def sorted (N : Nat) (l : List (Nat × Nat)) (i : Nat) : List (List Nat) := (List.range N).map fun u => if u < i then nearS l u else nb l u
theorem sorted_zero (N : Nat) (l : List (Nat × Nat)) : sorted N l 0 = nears N l := by simp [sorted, nears]
theorem sorted_all (N : Nat) (l : List (Nat × Nat)) : sorted N l N = (List.range N).map (nearS l) := by
  apply List.map_congr_left
  intro u hu
  rw [if_pos (by simpa using hu)]
theorem sorted_get {N i : Nat} {l : List (Nat × Nat)} (hi : i < N) : (sorted N l i)[i]? = some (nb l i) := by simp [sorted, hi]
theorem sorted_succ {N i : Nat} {l : List (Nat × Nat)} (hi : i < N) : sorted N l (i + 1) = (sorted N l i).set i (nearS l i) := by
  apply List.ext_getElem?
  intro k
  simp only [sorted, List.getElem?_set, List.getElem?_map, List.length_map, List.length_range]
  by_cases hk : k < N
  · rw [List.getElem?_eq_getElem (by simpa using hk)]
    simp only [List.getElem_range, Option.map_some]
    by_cases h1 : i = k
    · subst h1; simp [hi]
    · rw [if_neg h1]
      by_cases h2 : k < i
      · rw [if_pos (by omega), if_pos h2]
      · rw [if_neg (by omega), if_neg h2]
  · rw [List.getElem?_eq_none (by simpa using hk)]
    have : i ≠ k := by omega
    simp [this]
theorem mem_nb {l : List (Nat × Nat)} {u v : Nat} (hl : ∀ e ∈ l, e.1 ≠ e.2) : u ∈ nb l v ↔ (v, u) ∈ l ∨ (u, v) ∈ l := by
  simp only [nb, List.mem_filterMap]
  constructor
  · rintro ⟨⟨a, b⟩, he, h⟩
    dsimp only at h
    split at h
    · rename_i h1; subst h1
      obtain rfl : b = u := by simpa using h
      exact .inl he
    · split at h
      · rename_i h2; subst h2
        obtain rfl : a = u := by simpa using h
        exact .inr he
      · simp at h
  · rintro (h | h)
    · exact ⟨(v, u), h, by simp⟩
    · refine ⟨(u, v), h, ?_⟩
      have := hl _ h
      dsimp only at this ⊢
      rw [if_neg this, if_pos rfl]
theorem mem_nearS {l : List (Nat × Nat)} {u v : Nat} : u ∈ nearS l v ↔ u ∈ nb l v := by simp [nearS, List.mem_mergeSort]
structure Good (N : Nat) (l : List (Nat × Nat)) : Prop where
  lt : ∀ e ∈ l, e.1 < e.2 ∧ e.2 < N
theorem RightG.good {n : Int} {es : List E} (h : RightG n es) : Good n.toNat (tn es) where
  lt e he := by
    obtain ⟨x, hx, rfl⟩ := List.mem_map.1 he
    obtain ⟨h1, h2, h3, -, -⟩ := h.ok x hx
    have := h.lo
    dsimp only
    omega
theorem Good.adj {N : Nat} {l : List (Nat × Nat)} (h : Good N l) : Adj N (nb l) where
  lt v hv u hu := by
    rcases (mem_nb (fun e he => by have := h.lt e he; omega)).1 hu with hu | hu
    · exact (h.lt _ hu).2
    · have := h.lt _ hu; dsimp only at this; omega
  sym v u hv hu := by
    rw [mem_nb (fun e he => by have := h.lt e he; omega)] at hu ⊢
    exact hu.symm
theorem Good.adjS {N : Nat} {l : List (Nat × Nat)} (h : Good N l) : Adj N (nearS l) where
  lt v hv u hu := h.adj.lt v hv u (mem_nearS.1 hu)
  sym v u hv hu := mem_nearS.2 (h.adj.sym v u hv (mem_nearS.1 hu))
end Fil
end
section
namespace Go.Sl
open Go Go.RowKit
theorem made1 {z : Value} {z0 : Value} (hz : z.cells = #[z0]) (m : Nat) : (madeCells z.cells (m * 1)).toList = List.replicate m z0 := by
  rw [hz]
  apply List.ext_getElem?
  intro k
  simp only [madeCells, Nat.mul_one, Array.toList_map, Array.toList_range, List.getElem?_map, List.getElem?_replicate]
  by_cases hk : k < m
  · simp [hk, Nat.mod_one]
  · simp [hk]
def rowN (h : Value) (l : List Nat) : HP := rowHP h 3 1 l.length (nV l)
theorem rowN_snoc (h : Value) (l : List Nat) (x : Nat) : rowHP h 3 1 (l.length + 1) (nV l ++ [.int .i64 (x : Int)]) = rowN h (l ++ [x]) := by simp [rowN, nV]
end Go.Sl
namespace Go.Proofs.Ytpajjnkmaebhcab
open Go.RowKit Go.Sl Fil
set_option maxRecDepth 100000
set_option maxHeartbeats 8000000
set_option linter.unusedVariables false
set_option linter.unusedSimpArgs false
attribute [local irreducible] Code.wp wpList bodyPost wpQuiet Exit.then Exit.inBlock Post wpAnyH wpOp
theorem Near_ok (n : Int) (v : Value) (es : List E) (w : World) (hs : Shp v es.length) (hr : RO w No v (esV es)) (hR : RightG n es) :
    Calls Try.prog 25 #[.agg #[.int .i64 n, v]] w (Post w No fun r L' => ∃ hs : List Value, hs.length = n.toNat ∧ L' = [rowHP r 25 1 n.toNat hs, starHP (kids rowN hs ((List.range n.toNat).map (nearS (tn es))))]) := by
  have hR0 := right_iff.2 hR
  have hm : es.length < 4611686018427387904 := by have := hR.many; omega
  refine enter0 (vs := [_]) Try.func25 rfl Try.ntmps25 rfl ?_
  repeat' first
    | refine k_then ?_ | refine c_seq ?_ | refine c_region ?_ | refine s_nil ?_ | refine s_assign (by exact rfl) (by exact rfl) ?_ | refine s_ldk_box (by exact rfl) (by exact rfl) (by exact .head _) (by exact rfl) (by exact rfl) ?_ | refine o_box (by exact rfl) (by exact rfl) (fun b => ?_)
  refine s_call (by exact rfl) (by exact rfl) (fun w h => Right_ok n v es w hs (ro_old h hr) hm) ?_
  repeat' first
    | refine k_then ?_ | refine c_seq ?_ | refine c_region ?_ | refine s_nil ?_ | refine s_fa (by exact rfl) (by exact rfl) ?_ | refine s_ld_box (by exact rfl) (by exact rfl) (by exact .head _) (by exact rfl) ?_ | refine s_neq (by exact rfl) (by exact rfl) (by exact rfl) ?_ | refine c_skip ?_ | (refine c_cond_p (by exact rfl) (fun h => ?_) (fun h => ?_) <;> try (exfalso; omega))
  have hlo := hR.lo
  have hhi := hR.hi
  refine o_make (by exact rfl) (by exact rfl) (by exact rfl) (by omega) (by omega) fun vo hvo => ?_
  rw [made1 rfl]
  repeat' first
    | refine k_then ?_ | refine c_seq ?_ | refine c_region ?_ | refine s_nil ?_ | refine s_move (by exact rfl) (by exact rfl) ?_ | refine s_assign (by exact rfl) (by exact rfl) ?_ | refine s_fa (by exact rfl) (by exact rfl) ?_ | refine s_ld_box (by exact rfl) (by exact rfl) (by exact .tail _ (.head _)) (by exact rfl) ?_ | refine s_len (by exact rfl) (by exact rfl) (by assumption) ?_ | refine c_block ?_
  refine c_nils 3 1 n.toNat ?_
  refine c_loop (fun x : Nat × List Value => x.1 ≤ es.length ∧ x.2.length = n.toNat) (fun x => [(3, vo), (15, v), (16, .int .i64 (es.length : Int)), (17, .int .i64 (x.1 : Int))]) (fun x => [rowHP vo 25 1 n.toNat x.2, starHP (kids rowN x.2 (nears n.toNat (tn (es.take x.1))))]) (fun x => es.length - x.1) (0, List.replicate n.toNat (.slice none 0 0)) [1, 0] ⟨by omega, by simp⟩ ?_ ⟨rfl, rfl, rfl, rfl, trivial⟩ ?_
  · show _ = some [_, starHP (kids rowN _ (nears n.toNat []))]
    rw [nears_zero, kids_nils]
    rfl
  rintro ⟨k, hs0⟩ ⟨hk, hl0⟩
  dsimp only at hk hl0 ⊢
  by_cases hlt : k < es.length
  · obtain ⟨e, he⟩ : ∃ e, es[k]? = some e := ⟨_, List.getElem?_eq_getElem hlt⟩
    have hE := esV_at he
    obtain ⟨q1, q2, q3, -, -⟩ := hR.ok e (List.mem_of_getElem? he)
    have hsn := nears_snoc (N := n.toNat) (l := tn (es.take k)) (u := e.1.toNat) (v := e.2.1.toNat) (by omega) (by omega) (by omega)
    rw [← tn_take he] at hsn
    generalize hls : nears n.toNat (tn (es.take k)) = ls at *
    have hb : ∀ u, (nb (tn (es.take k)) u).length ≤ 4194304 := fun u => by
      have := nb_length (tn (es.take k)) u
      have h2 := hR.many
      simp only [tn, List.length_map, List.length_take] at this
      simp only [tn] at this ⊢
      omega
    repeat' first
      | refine k_then ?_ | refine c_seq ?_ | refine c_region ?_ | refine s_nil ?_ | refine s_lss (by exact rfl) (by exact rfl) (by exact rfl) ?_ | refine s_idx (by exact rfl) (by exact rfl) (by exact rfl) (by assumption) (by first | assumption | omega) ?_ | refine s_ldk_ro (by exact rfl) (by exact rfl) (by assumption) (by decide) (by assumption) (by exact rfl) ?_ | refine o_alloc (by exact rfl) (fun b => ?_) | refine c_block ?_ | refine c_skip ?_ | (refine c_cond_p (by exact rfl) (fun h => ?_) (fun h => ?_) <;> try (exfalso; omega))
    refine o_stk_box (i := 0) (us := eV e) (by exact rfl) (by exact rfl) (by exact rfl) (by exact rfl) (by exact rfl) (by simp [eV, Value.oneCell']) (by simp [Value.cells]) ?_
    repeat' first
      | refine k_then ?_ | refine c_seq ?_ | refine s_nil ?_
    refine c_cut (fun hs1 : List Value => hs1.length = n.toNat) (fun _ => [(5, .pointer (some ⟨b, 0, none⟩)), (3, vo), (15, v), (16, .int .i64 (es.length : Int)), (17, .int .i64 (k : Int))]) (fun hs1 => [boxHP b 41 (eV e), rowHP vo 25 1 n.toNat hs1, starHP (kids rowN hs1 (ls.set e.1.toNat ((nb (tn (es.take k)) e.1.toNat) ++ [e.2.1.toNat])))]) ?_ fun hs1 hl1 => ?_
    · obtain ⟨hd, hhd⟩ : ∃ hd, hs0[e.1.toNat * 1]? = some hd := ⟨_, List.getElem?_eq_getElem (by omega)⟩
      have hkid : (ls)[e.1.toNat]? = some (nb (tn (es.take k)) e.1.toNat) := by rw [← hls]; exact nears_get (by omega)
      refine c_take 2 e.1.toNat (by exact rfl) (kids_get (by simpa using hhd) hkid) ?_
      refine p_begin [(0, true), (1, true), (2, true), (3, true), (4, true), (5, true), (6, true), (8, true), (9, true), .rd 7 10, (11, false), (12, true), (13, false)] [boxHP b 41 (eV e)] (by kernel_rfl) ?_
      repeat' first
        | (refine p_at (by exact rfl) ?_
           first
            | refine t_move (by exact rfl) (by exact rfl) (by exact fun _ h => h.pick [1] (by exact rfl)) ?_ | refine t_fa (by exact rfl) (by exact rfl) (by exact fun _ h => h.pick [1] (by exact rfl)) ?_ | refine t_ld_box (by exact rfl) (by exact rfl) (by exact .head _) (by exact rfl) (by exact fun _ h => h.pick [1] (by exact rfl)) ?_ | refine t_idxi (by exact rfl) (by exact rfl) (by exact rfl) (by assumption) (by first | assumption | omega) (by exact fun _ h => h.pick [1] (by exact rfl)) ?_)
      refine p_rd ?_ ?_
      all_goals
        repeat' first
          | (refine p_at (by exact rfl) ?_
             first
              | refine r_ld_row (by exact rfl) (by exact rfl) (by exact .tail _ (.tail _ (.head _))) (by assumption) (by exact fun _ h => h.pick [1] (by exact rfl)) ?_)
        refine p_mk [_] (by exact rfl) rfl (by exact rfl) rfl ?_ ?_ (by simp) (fun w A h => h.pick [2] (by exact rfl)) (fun sx hsx => ?_)
        · simp [Value.cells]
        · simp
        repeat' first
          | (refine p_at (by exact rfl) ?_
             first
              | refine r_ld_row (by exact rfl) (by exact rfl) (by exact .tail _ (.tail _ (.tail _ (.head _)))) (by assumption) (by exact fun _ h => h.pick [2] (by exact rfl)) ?_)
        refine p_append_row (j := 1) (by exact rfl) rfl (by exact rfl) (by exact rfl) (by exact rfl) (by exact .head _) (by exact rfl) (by simp [Value.cells, Value.oneCell']) ?_ (fun w v h => h.pick [2] (by exact rfl)) (fun vk hvk => ?_)
        · have := hb e.1.toNat
          simp only [List.length_cons, List.length_nil]
          omega
        repeat' first
          | (refine p_at (by exact rfl) ?_
             first
              | refine t_idxi (by exact rfl) (by exact rfl) (by exact rfl) (by assumption) (by first | assumption | omega) (by exact fun _ h => h.pick [2] (by exact rfl)) ?_)
        refine p_st_row (j := 3) (by exact rfl) (by exact rfl) (by exact rfl) (by exact rfl) hvk.one (by omega) (fun w h => h.pick [2] (by exact rfl)) ?_
        repeat' first
          | refine p_nil ?_
        refine c_pick [1, 1, 1, 1] (by exact rfl) ?_
        have e1 : rowHP vk 3 1 ((nb (tn (es.take k)) e.1.toNat).length + 1) (nV (nb (tn (es.take k)) e.1.toNat) ++ [Value.int .i64 e.2.1]) = rowN vk ((nb (tn (es.take k)) e.1.toNat) ++ [e.2.1.toNat]) := by
          rw [show (e.2.1 : Int) = ((e.2.1.toNat : Nat) : Int) from by omega]
          exact rowN_snoc _ _ _
        refine c_give 2 e.1.toNat (by exact rfl) (by simp [kids, hl0, ← hls, nears]; omega) ?_
        refine cut_end (hs0.set e.1.toNat vk) [0, 0, 0] ?_ ⟨rfl, rfl, rfl, rfl, rfl, trivial⟩ (by simpa using hl0)
        rw [← kids_set (x := empHP), ← e1, Nat.mul_one]
        rfl
    repeat' first
      | refine k_then ?_
    refine c_cut (fun hs1 : List Value => hs1.length = n.toNat) (fun _ => [(5, .pointer (some ⟨b, 0, none⟩)), (3, vo), (15, v), (16, .int .i64 (es.length : Int)), (17, .int .i64 (k : Int))]) (fun hs1 => [boxHP b 41 (eV e), rowHP vo 25 1 n.toNat hs1, starHP (kids rowN hs1 ((ls.set e.1.toNat ((nb (tn (es.take k)) e.1.toNat) ++ [e.2.1.toNat])).set e.2.1.toNat ((nb (tn (es.take k)) e.2.1.toNat) ++ [e.1.toNat])))]) ?_ fun hs2 hl2 => ?_
    · obtain ⟨hd, hhd⟩ : ∃ hd, hs1[e.2.1.toNat * 1]? = some hd := ⟨_, List.getElem?_eq_getElem (by omega)⟩
      have hkid : (ls.set e.1.toNat ((nb (tn (es.take k)) e.1.toNat) ++ [e.2.1.toNat]))[e.2.1.toNat]? = some (nb (tn (es.take k)) e.2.1.toNat) := by rw [List.getElem?_set_ne (by omega), ← hls]; exact nears_get (by omega)
      refine c_take 2 e.2.1.toNat (by exact rfl) (kids_get (by simpa using hhd) hkid) ?_
      refine p_begin [(0, true), (1, true), (2, true), (3, true), (4, true), (5, true), (6, true), (8, true), (9, true), .rd 7 10, (11, false), (12, true), (13, false)] [boxHP b 41 (eV e)] (by kernel_rfl) ?_
      repeat' first
        | (refine p_at (by exact rfl) ?_
           first
            | refine t_move (by exact rfl) (by exact rfl) (by exact fun _ h => h.pick [1] (by exact rfl)) ?_ | refine t_fa (by exact rfl) (by exact rfl) (by exact fun _ h => h.pick [1] (by exact rfl)) ?_ | refine t_ld_box (by exact rfl) (by exact rfl) (by exact .head _) (by exact rfl) (by exact fun _ h => h.pick [1] (by exact rfl)) ?_ | refine t_idxi (by exact rfl) (by exact rfl) (by exact rfl) (by assumption) (by first | assumption | omega) (by exact fun _ h => h.pick [1] (by exact rfl)) ?_)
      refine p_rd ?_ ?_
      all_goals
        repeat' first
          | (refine p_at (by exact rfl) ?_
             first
              | refine r_ld_row (by exact rfl) (by exact rfl) (by exact .tail _ (.tail _ (.head _))) (by assumption) (by exact fun _ h => h.pick [1] (by exact rfl)) ?_)
        refine p_mk [_] (by exact rfl) rfl (by exact rfl) rfl ?_ ?_ (by simp) (fun w A h => h.pick [2] (by exact rfl)) (fun sx hsx => ?_)
        · simp [Value.cells]
        · simp
        repeat' first
          | (refine p_at (by exact rfl) ?_
             first
              | refine r_ld_row (by exact rfl) (by exact rfl) (by exact .tail _ (.tail _ (.tail _ (.head _)))) (by assumption) (by exact fun _ h => h.pick [2] (by exact rfl)) ?_)
        refine p_append_row (j := 1) (by exact rfl) rfl (by exact rfl) (by exact rfl) (by exact rfl) (by exact .head _) (by exact rfl) (by simp [Value.cells, Value.oneCell']) ?_ (fun w v h => h.pick [2] (by exact rfl)) (fun vk hvk => ?_)
        · have := hb e.2.1.toNat
          simp only [List.length_cons, List.length_nil]
          omega
        repeat' first
          | (refine p_at (by exact rfl) ?_
             first
              | refine t_idxi (by exact rfl) (by exact rfl) (by exact rfl) (by assumption) (by first | assumption | omega) (by exact fun _ h => h.pick [2] (by exact rfl)) ?_)
        refine p_st_row (j := 3) (by exact rfl) (by exact rfl) (by exact rfl) (by exact rfl) hvk.one (by omega) (fun w h => h.pick [2] (by exact rfl)) ?_
        repeat' first
          | refine p_nil ?_
        refine c_pick [1, 1, 1, 1] (by exact rfl) ?_
        have e1 : rowHP vk 3 1 ((nb (tn (es.take k)) e.2.1.toNat).length + 1) (nV (nb (tn (es.take k)) e.2.1.toNat) ++ [Value.int .i64 e.1]) = rowN vk ((nb (tn (es.take k)) e.2.1.toNat) ++ [e.1.toNat]) := by
          rw [show (e.1 : Int) = ((e.1.toNat : Nat) : Int) from by omega]
          exact rowN_snoc _ _ _
        refine c_give 2 e.2.1.toNat (by exact rfl) (by simp [kids, hl1, ← hls, nears]; omega) ?_
        refine cut_end (hs1.set e.2.1.toNat vk) [0, 0, 0] ?_ ⟨rfl, rfl, rfl, rfl, rfl, trivial⟩ (by simpa using hl1)
        rw [← kids_set (x := empHP), ← e1, Nat.mul_one]
        rfl
    repeat' first
      | refine k_then ?_ | refine c_region ?_ | refine s_nil ?_ | refine s_move (by exact rfl) (by exact rfl) ?_ | refine s_add (by exact rfl) (by exact rfl) (by exact rfl) (by omega) ?_ | refine k_blk ?_
    refine c_round (k + 1, hs2) [1, 1] (by rw [hsn]; rfl) (by exact ⟨rfl, rfl, rfl, rfl, trivial⟩) ⟨by omega, hl2⟩ (by dsimp only; omega)
  · repeat' first
      | refine k_then ?_ | refine c_seq ?_ | refine c_region ?_ | refine s_nil ?_ | refine s_move (by exact rfl) (by exact rfl) ?_ | refine s_lss (by exact rfl) (by exact rfl) (by exact rfl) ?_ | refine s_len (by exact rfl) (by exact rfl) (by assumption) ?_ | refine c_block ?_ | refine c_exit ?_ | refine k_then_exit ?_ | refine k_blk_eq ?_ | (refine c_cond_p (by exact rfl) (fun h => ?_) (fun h => ?_) <;> try (exfalso; omega))
    have hkl : k = es.length := by omega
    subst hkl
    rw [List.take_length]
    refine c_loop (fun i : Nat => i ≤ n.toNat) (fun i => [(3, vo), (48, vo), (49, .int .i64 (n.toNat : Int)), (50, .int .i64 (i : Int))]) (fun i => [rowHP vo 25 1 n.toNat hs0, starHP (kids rowN hs0 (sorted n.toNat (tn es) i))]) (fun i => n.toNat - i) 0 [0, 0] (Nat.zero_le _) (by rw [sorted_zero]; rfl) ⟨rfl, rfl, rfl, rfl, trivial⟩ ?_
    intro i hi
    by_cases hlt2 : i < n.toNat
    · obtain ⟨hd, hhd⟩ : ∃ hd, hs0[i * 1]? = some hd := ⟨_, List.getElem?_eq_getElem (by omega)⟩
      have hk1 : (kids rowN hs0 (sorted n.toNat (tn es) i))[i]? = some (rowN hd (nb (tn es) i)) := kids_get (by simpa using hhd) (sorted_get hlt2)
      repeat' first
        | refine k_then ?_ | refine c_seq ?_ | refine c_region ?_ | refine s_nil ?_ | refine s_move (by exact rfl) (by exact rfl) ?_ | refine s_assign (by exact rfl) (by exact rfl) ?_ | refine s_lss (by exact rfl) (by exact rfl) (by exact rfl) ?_ | refine s_idx (by exact rfl) (by exact rfl) (by exact rfl) (by assumption) (by first | assumption | omega) ?_ | refine s_ld_row (by exact rfl) (by exact rfl) (by exact .head _) (by assumption) ?_ | refine c_block ?_ | refine c_skip ?_ | (refine c_cond_p (by exact rfl) (fun h => ?_) (fun h => ?_) <;> try (exfalso; omega))
      refine c_take 1 i (by exact rfl) hk1 ?_
      refine s_lend [rowN hd (nb (tn es) i)] _ (by exact rfl) (by exact rfl) (by exact rfl) (fun w S h => nsort_row (sats_mem h.own (.head _)) (by have := nb_length (tn es) i; have h2 := hR.many; simp only [tn, List.length_map] at this; simp only [tn]; omega)) ?_
      rintro _ _ ⟨rfl, rfl⟩
      repeat' first
        | refine k_then ?_ | refine c_region ?_ | refine s_nil ?_ | refine s_move (by exact rfl) (by exact rfl) ?_ | refine s_add (by exact rfl) (by exact rfl) (by exact rfl) (by omega) ?_ | refine k_blk ?_
      have e1 : rowHP hd 3 1 (nb (tn es) i).length (nV ((nb (tn es) i).mergeSort fun x y => decide (x ≤ y))) = rowN hd (nearS (tn es) i) := by
        simp [rowN, nearS]
      refine c_give (L := [_, _]) 1 i (by exact rfl) (by rw [List.length_set, kids_length (by simp [sorted, hl0])]; simpa [sorted] using hlt2) ?_
      refine c_round (i + 1) [0, 0] ?_ (by exact ⟨rfl, rfl, rfl, rfl, trivial⟩) (by omega) (by omega)
      rw [sorted_succ hlt2, ← kids_set2 (x := empHP) (by simpa using hhd), ← e1]
      rfl
    · repeat' first
        | refine k_then ?_ | refine c_seq ?_ | refine c_region ?_ | refine s_nil ?_ | refine s_move (by exact rfl) (by exact rfl) ?_ | refine s_assign (by exact rfl) (by exact rfl) ?_ | refine s_lss (by exact rfl) (by exact rfl) (by exact rfl) ?_ | refine c_exit ?_ | refine c_ret ?_ | refine k_then_exit ?_ | refine k_blk_eq ?_ | (refine c_cond_p (by exact rfl) (fun h => ?_) (fun h => ?_) <;> try (exfalso; omega))
      obtain rfl : i = n.toNat := by omega
      refine ret1 [0, 0] rfl rfl rfl ⟨hs0, hl0, ?_⟩
      rw [sorted_all]
end Go.Proofs.Ytpajjnkmaebhcab
end
section
namespace Go.Sl
open Go Go.RowKit
def bV (l : List Bool) : List Value := l.map Value.bool
theorem bV_get {l : List Bool} {k : Nat} (h : k < l.length) : (bV l)[k * 1]? = some (.bool (l.getD k false)) := by
  simp [bV, h]
theorem nV_get {l : List Nat} {k : Nat} (h : k < l.length) : (nV l)[k * 1]? = some (.int .i64 ((l.getD k 0 : Nat) : Int)) := by
  simp [nV, h]
theorem bV_set (l : List Bool) (k : Nat) (b : Bool) : (bV l).set (k * 1) (.bool b) = bV (l.set k b) := by simp [bV, List.map_set]
theorem nV_set (l : List Nat) (k x : Nat) : (nV l).set (k * 1) (.int .i64 (x : Int)) = nV (l.set k x) := by simp [nV, List.map_set]
theorem iV_get {l : List Int} {k : Nat} (h : k < l.length) : (iV l)[k * 1]? = some (.int .i64 (l.getD k 0)) := by
  simp [iV, h]
theorem nV_iV (l : List Nat) : nV l = iV (l.map fun (k : Nat) => (k : Int)) := by simp [nV, iV]
end Go.Sl
namespace Go.Proofs.Ytpajjnkmaebhcab
open Go.RowKit Go.Sl Fil
theorem esV_snoc (l : List E) (e : E) : esV (l ++ [e]) = esV l ++ eV e := by simp [esV, List.flatMap_append]
end Go.Proofs.Ytpajjnkmaebhcab
end
section
namespace Go.Sl
open Go Go.RowKit
/-- rows that are read, by rows of numbers -/
structure ROs (w : World) (S : FS) (v : Value) (hs : List Value) (ls : List (List Nat)) : Prop where
  shp : Shp v ls.length
  len : hs.length = ls.length
  ro : RO w S v hs
  kid : ∀ (i : Nat) h l, hs[i]? = some h → ls[i]? = some l → Shp h l.length ∧ RO w S h (nV l)
theorem ros_own {w0 w : World} {S0 : FS} {L : List HP} {v : Value} {e : TypeId} {m : Nat} {hs : List Value} {ls : List (List Nat)} (h : St w0 S0 L w) (hL : rowHP v e 1 m hs ∈ L) (hm : m = ls.length) (hK : starHP (kids rowN hs ls) ∈ L) : ROs w No v hs ls := by
  obtain ⟨S, hsat⟩ := h.mem hL
  have hl : hs.length = m := by have := hsat.1; omega
  refine ⟨hm ▸ rowHP_shp hsat, by omega, RO.of_rd (rowHP_rd hsat), fun i x l h1 h2 => ?_⟩
  have hk : rowHP x 3 1 l.length (nV l) ∈ kids rowN hs ls := kids_mem (f := rowN) h1 h2
  obtain ⟨S, hsat⟩ := h.kid hK hk
  exact ⟨rowHP_shp hsat, RO.of_rd (rowHP_rd hsat)⟩
theorem ros_old {w0 w : World} {S0 : FS} {L : List HP} {v : Value} {hs : List Value} {ls : List (List Nat)} (h : St w0 S0 L w) (hr : ROs w0 S0 v hs ls) : ROs w No v hs ls :=
  ⟨hr.shp, hr.len, ro_old h hr.ro, fun i x l h1 h2 => ⟨(hr.kid i x l h1 h2).1, ro_old h (hr.kid i x l h1 h2).2⟩⟩
end Go.Sl
namespace Go.Proofs.Ytpajjnkmaebhcab
open Go.RowKit Go.Sl Fil
set_option maxRecDepth 100000
set_option maxHeartbeats 8000000
set_option linter.unusedVariables false
set_option linter.unusedSimpArgs false
attribute [local irreducible] Code.wp wpList bodyPost wpQuiet Exit.then Exit.inBlock Post wpAnyH wpOp
end Go.Proofs.Ytpajjnkmaebhcab
end
section
namespace Fil
theorem countP_lt {α : Type} {p q : α → Bool} (hpq : ∀ x, p x = true → q x = true) : ∀ {l : List α} {x : α}, x ∈ l → p x = false → q x = true → l.countP p + 1 ≤ l.countP q
  | y :: l, x, hx, h1, h2 => by
    have mono : l.countP p ≤ l.countP q := List.countP_mono_left fun x _ h => hpq x h
    simp only [List.countP_cons]
    rcases List.mem_cons.1 hx with rfl | hx
    · rw [h1, h2]; simp; omega
    · have ih := countP_lt hpq hx h1 h2
      have : (if p y = true then 1 else 0) ≤ (if q y = true then 1 else 0) := by
        split
        · rename_i h; rw [if_pos (hpq y h)]; exact Nat.le_refl _
        · exact Nat.zero_le _
      omega
theorem Lev.lt {N : Nat} {A : Nat → List Nat} {o lab : Nat → Nat} (hA : Adj N A) (h : Lev N A o lab) : ∀ v, v < N → o v < N := by
  have down : ∀ k v, v < N → o v = k → ∀ j, j ≤ k → ∃ u, u < N ∧ o u = j := by
    intro k
    induction k with
    | zero => intro v hv hk j hj; exact ⟨v, hv, by omega⟩
    | succ k ih =>
      intro v hv hk j hj
      by_cases e : j = k + 1
      · exact ⟨v, hv, by omega⟩
      · obtain ⟨u, hu, hk'⟩ := h.up v k hv hk
        exact ih u (hA.lt v hv u hu) hk' j (by omega)
  intro v hv
  have cnt : ∀ j, j ≤ o v + 1 → j ≤ (List.range N).countP fun u => decide (o u < j) := by
    intro j
    induction j with
    | zero => intro _; exact Nat.zero_le _
    | succ j ih =>
      intro hj
      obtain ⟨u, hu, hoj⟩ := down (o v) v hv rfl j (by omega)
      have := countP_lt (p := fun u => decide (o u < j)) (q := fun u => decide (o u < j + 1)) (fun x hx => by simp at hx ⊢; omega) (List.mem_range.2 hu) (by simp [hoj]) (by simp [hoj])
      have := ih (by omega)
      omega
  have h1 := cnt (o v + 1) (Nat.le_refl _)
  have h2 := List.countP_le_length (l := List.range N) (p := fun u => decide (o u < o v + 1))
  rw [List.length_range] at h2
  omega
end Fil
end
section
namespace Fil
/-- the lists of those of the labels below i -/
def compsL (N i : Nat) (met : List Bool) (lab : Nat → Nat) : List (List Nat) := ((List.range i).filter fun v => lab v == v).map fun r => (List.range N).filter fun u => met.getD u false && lab u == r
theorem comps_upd {N i : Nat} {met met' : List Bool} {lab lab' : Nat → Nat} (h1 : ∀ u, met.getD u false = true → met'.getD u false = true ∧ lab' u = lab u) (h2 : ∀ u, met'.getD u false = true → met.getD u false = false → lab' u = i) (h3 : ∀ v, v < i → met.getD v false = true) : compsL N i met' lab' = compsL N i met lab := by
  have e1 : (List.range i).filter (fun v => lab' v == v) = (List.range i).filter fun v => lab v == v := by
    apply List.filter_congr
    intro v hv
    rw [(h1 v (h3 v (by simpa using hv))).2]
  rw [compsL, e1, compsL]
  apply List.map_congr_left
  intro r hr
  have hri : r < i := by
    have := (List.mem_filter.1 hr).1
    simpa using this
  apply List.filter_congr
  intro u _
  cases hm : met.getD u false
  · cases hm' : met'.getD u false
    · simp
    · have := h2 u hm' hm
      simp only [Bool.true_and, Bool.false_and, this]
      simp; omega
  · obtain ⟨h4, h5⟩ := h1 u hm
    rw [h4, h5]
theorem comps_next {N i : Nat} {met : List Bool} {lab : Nat → Nat} (h : lab i ≠ i) : compsL N (i + 1) met lab = compsL N i met lab := by
  have : (lab i == i) = false := by simpa using h
  rw [compsL, List.range_succ, List.filter_append]
  simp [this, compsL]
/-- a list of just those of label i, sorted -/
theorem sorted_of {N i : Nat} {met : List Bool} {lab : Nat → Nat} {part : List Nat} (hn : part.Nodup) (hp : ∀ u, u ∈ part ↔ u < N ∧ met.getD u false = true ∧ lab u = i) : part.mergeSort (fun x y => decide (x ≤ y)) = (List.range N).filter fun u => met.getD u false && lab u == i := by
  refine List.Perm.eq_of_pairwise (le := fun a b => a ≤ b) (fun a b _ _ h1 h2 => Nat.le_antisymm h1 h2) ?_ ?_ ?_
  · have := List.pairwise_mergeSort (le := fun (x y : Nat) => decide (x ≤ y)) (fun a b c h1 h2 => by simp at *; omega) (fun a b => by simp; omega) part
    exact this.imp fun h => by simpa using h
  · exact (List.pairwise_lt_range.imp fun h => Nat.le_of_lt h).filter _
  · refine (List.mergeSort_perm part _).trans ((List.perm_ext_iff_of_nodup hn (List.nodup_range.filter _)).2 fun u => ?_)
    rw [hp]
    simp
theorem comps_add {N i : Nat} {met : List Bool} {lab : Nat → Nat} {part : List Nat} (hi : lab i = i) (hn : part.Nodup) (hp : ∀ u, u ∈ part ↔ u < N ∧ met.getD u false = true ∧ lab u = i) : compsL N (i + 1) met lab = compsL N i met lab ++ [part.mergeSort fun x y => decide (x ≤ y)] := by
  rw [sorted_of hn hp, compsL, List.range_succ, List.filter_append]
  simp [hi, compsL]
/-- part: just those that were met from i on -/
structure Part (N i : Nat) (met : List Bool) (lab : Nat → Nat) (part : List Nat) : Prop where
  nodup : part.Nodup
  mem : ∀ u, u ∈ part ↔ u < N ∧ met.getD u false = true ∧ lab u = i
  le : ∀ u, met.getD u false = true → lab u ≤ i
theorem Part.start {N i : Nat} {met : List Bool} {lab : Nat → Nat} (hi : i < N) (hl : met.length = N) (hL : ∀ v, met.getD v false = true → lab v < i) : Part N i (met.set i true) (fun x => if x = i then i else lab x) [i] where
  nodup := by simp
  mem u := by
    rw [getD_set]
    by_cases e : u = i
    · subst e; simp [hi, hl]
    · have e' : ¬ i = u := fun h => e h.symm
      simp only [List.mem_singleton, e, e', false_and, if_false, false_iff]
      rintro ⟨h1, h2, h3⟩
      have := hL u h2
      omega
  le u hu := by
    rw [getD_set] at hu
    split
    · exact Nat.le_refl _
    · rename_i e
      rw [if_neg (by omega)] at hu
      exact Nat.le_of_lt (hL u hu)
theorem Part.new {N i u : Nat} {met : List Bool} {lab : Nat → Nat} {part : List Nat} (h : Part N i met lab part) (hu : u < N) (hl : met.length = N) (hm : met.getD u false = false) : Part N i (met.set u true) (fun x => if x = u then i else lab x) (part ++ [u]) where
  nodup := by
    refine List.nodup_append.2 ⟨h.nodup, by simp, ?_⟩
    intro a ha b hb e
    obtain rfl : b = u := by simpa using hb
    subst e
    have := ((h.mem a).1 ha).2.1
    rw [hm] at this; simp at this
  mem x := by
    rw [getD_set, List.mem_append, h.mem]
    by_cases e : x = u
    · subst e; simp [hu, hl]
    · have e' : ¬ u = x := fun h => e h.symm
      simp [e, e']
  le x hx := by
    rw [getD_set] at hx
    split
    · exact Nat.le_refl _
    · rename_i e
      rw [if_neg (by omega)] at hx
      exact h.le x hx
theorem comps_step {N i u : Nat} {met : List Bool} {lab : Nat → Nat} (hm : met.getD u false = false) (h3 : ∀ v, v < i → met.getD v false = true) : compsL N i (met.set u true) (fun x => if x = u then i else lab x) = compsL N i met lab := by
  refine comps_upd (fun x hx => ?_) (fun x hx hx' => ?_) h3
  · have : x ≠ u := fun e => by subst e; rw [hm] at hx; simp at hx
    refine ⟨?_, by simp [this]⟩
    rw [getD_set]
    split <;> first | rfl | exact hx
  · rw [getD_set] at hx
    split at hx
    · rename_i h; simp [h.1]
    · rw [hx'] at hx; simp at hx
theorem Part.length_le {N i : Nat} {met : List Bool} {lab : Nat → Nat} {part : List Nat} (h : Part N i met lab part) : part.length ≤ N := by
  have hp := (List.perm_ext_iff_of_nodup h.nodup (List.nodup_range.filter fun u => met.getD u false && lab u == i) (l₂ := (List.range N).filter fun u => met.getD u false && lab u == i)).2 fun u => by
    rw [h.mem]; simp
  have h1 := hp.length_eq
  have h2 := List.length_filter_le (fun u => met.getD u false && lab u == i) (List.range N)
  rw [List.length_range] at h2
  omega
theorem compsL_length (N i : Nat) (met : List Bool) (lab : Nat → Nat) : (compsL N i met lab).length ≤ i := by
  rw [compsL, List.length_map]
  have := List.length_filter_le (fun v => lab v == v) (List.range i)
  rwa [List.length_range] at this
end Fil
end
section
namespace Fil
theorem RightG.filter {n : Int} {es : List E} (h : RightG n es) (p : E → Bool) : RightG n (es.filter p) where
  lo := h.lo
  hi := h.hi
  many := Nat.le_trans (List.length_filter_le _ _) h.many
  ok e he := h.ok e (List.mem_filter.1 he).1
  sorted := h.sorted.filter _
/-- two ways of labelling are one -/
theorem Lev.lab_eq {N : Nat} {A : Nat → List Nat} {o o' lab lab' : Nat → Nat} (h : Lev N A o lab) (h' : Lev N A o' lab') : ∀ v, v < N → lab v = lab' v := by
  have key : ∀ {o o' lab lab' : Nat → Nat}, Lev N A o lab → Lev N A o' lab' → ∀ v, v < N → lab v ≤ lab' v := by
    intro o o' lab lab' h h' v hv
    have h1 := h'.conn v hv lab (fun w hw u hu => (h.edge w hw u hu).1)
    have h2 := h'.le v hv
    have h3 := h.le (lab' v) (by omega)
    omega
  intro v hv
  exact Nat.le_antisymm (key h h' v hv) (key h' h v hv)
end Fil
end
section
namespace Fil
def relaxL (l : List Nat) (e : Nat × Nat) : List Nat := (l.set e.1 (min (l.getD e.1 0) (l.getD e.2 0))).set e.2 (min (l.getD e.1 0) (l.getD e.2 0))
def rounds (f : List Nat → Nat × Nat → List Nat) (es : List (Nat × Nat)) : Nat → List Nat → List Nat
  | 0, l => l
  | k + 1, l => es.foldl f (rounds f es k l)
/-- what a step keeps and gives, said of values t: where R a b, an exact a gives an exact b -/
structure Relax (N : Nat) (f : List Nat → Nat × Nat → List Nat) (t : Nat → Nat) (es : List (Nat × Nat)) (R : Nat → Nat → Prop) : Prop where
  len : ∀ l e, (f l e).length = l.length
  ge : ∀ l, l.length = N → ∀ e ∈ es, (∀ v, v < N → t v ≤ l.getD v 0) → ∀ v, v < N → t v ≤ (f l e).getD v 0
  le : ∀ l e v, (f l e).getD v 0 ≤ l.getD v 0
  give : ∀ l, l.length = N → ∀ e ∈ es, (∀ v, v < N → t v ≤ l.getD v 0) → ∀ a b, e = (a, b) ∨ e = (b, a) → R a b → l.getD a 0 = t a → (f l e).getD b 0 = t b
theorem Relax.keep {N : Nat} {f : List Nat → Nat × Nat → List Nat} {t : Nat → Nat} {es : List (Nat × Nat)} {R : Nat → Nat → Prop} (h : Relax N f t es R) : ∀ (r : List (Nat × Nat)), (∀ e ∈ r, e ∈ es) → ∀ l, l.length = N → (∀ v, v < N → t v ≤ l.getD v 0) →
    (r.foldl f l).length = N ∧ (∀ v, v < N → t v ≤ (r.foldl f l).getD v 0) ∧ ∀ v, v < N → l.getD v 0 = t v → (r.foldl f l).getD v 0 = t v
  | [], _, l, hl, hg => ⟨hl, hg, fun _ _ h => h⟩
  | e :: r, hr, l, hl, hg => by
    have hg' := h.ge l hl e (hr e (by simp)) hg
    obtain ⟨h1, h2, h3⟩ := h.keep r (fun x hx => hr x (by simp [hx])) (f l e) (by rw [h.len, hl]) hg'
    refine ⟨h1, h2, fun v hv hx => h3 v hv ?_⟩
    have := hg' v hv
    have := h.le l e v
    omega
theorem Relax.gives {N : Nat} {f : List Nat → Nat × Nat → List Nat} {t : Nat → Nat} {es : List (Nat × Nat)} {R : Nat → Nat → Prop} (h : Relax N f t es R) {a b : Nat} (ha : a < N) (hb : b < N) (hR : R a b) : ∀ (r : List (Nat × Nat)), (∀ e ∈ r, e ∈ es) → ∀ l, l.length = N → (∀ v, v < N → t v ≤ l.getD v 0) → ((a, b) ∈ r ∨ (b, a) ∈ r) → l.getD a 0 = t a → (r.foldl f l).getD b 0 = t b
  | [], _, _, _, _, hm, _ => by simp at hm
  | e :: r, hr, l, hl, hg, hm, hx => by
    have hg' := h.ge l hl e (hr e (by simp)) hg
    have hl' : (f l e).length = N := by rw [h.len, hl]
    have hr' : ∀ x ∈ r, x ∈ es := fun x hx => hr x (by simp [hx])
    by_cases he : e = (a, b) ∨ e = (b, a)
    · exact (h.keep r hr' (f l e) hl' hg').2.2 b hb (h.give l hl e (hr e (by simp)) hg a b he hR hx)
    · refine h.gives ha hb hR r hr' (f l e) hl' hg' ?_ ?_
      · rcases hm with hm | hm
        · rcases List.mem_cons.1 hm with h1 | h1
          · exact absurd (.inl h1.symm) he
          · exact .inl h1
        · rcases List.mem_cons.1 hm with h1 | h1
          · exact absurd (.inr h1.symm) he
          · exact .inr h1
      · have := hg' a ha
        have := h.le l e a
        omega
theorem Relax.rounds {N : Nat} {f : List Nat → Nat × Nat → List Nat} {t o : Nat → Nat} {es : List (Nat × Nat)} {R : Nat → Nat → Prop} (h : Relax N f t es R) {l : List Nat} (hl : l.length = N) (hg : ∀ v, v < N → t v ≤ l.getD v 0) (h0 : ∀ v, v < N → o v = 0 → l.getD v 0 = t v)
    (hs : ∀ v k, v < N → o v = k + 1 → ∃ u, u < N ∧ o u = k ∧ R u v ∧ ((u, v) ∈ es ∨ (v, u) ∈ es)) : ∀ k, (Fil.rounds f es k l).length = N ∧ (∀ v, v < N → t v ≤ (Fil.rounds f es k l).getD v 0) ∧ ∀ v, v < N → o v ≤ k → (Fil.rounds f es k l).getD v 0 = t v
  | 0 => ⟨hl, hg, fun v hv hk => h0 v hv (by omega)⟩
  | k + 1 => by
    obtain ⟨h1, h2, h3⟩ := h.rounds hl hg h0 hs k
    obtain ⟨h4, h5, h6⟩ := h.keep es (fun _ h => h) _ h1 h2
    refine ⟨h4, h5, fun v hv hk => ?_⟩
    by_cases e : o v ≤ k
    · exact h6 v hv (h3 v hv e)
    · obtain ⟨u, hu, hok, hR, hm⟩ := hs v k hv (by omega)
      exact h.gives hu hv hR es (fun _ h => h) _ h1 h2 hm (h3 u hu (by omega))
theorem relaxL_at (l : List Nat) (a b v : Nat) (ha : a < l.length) (hb : b < l.length) : (relaxL l (a, b)).getD v 0 = if v = a ∨ v = b then min (l.getD a 0) (l.getD b 0) else l.getD v 0 := by
  simp only [relaxL, getD_set, List.length_set]
  by_cases h1 : b = v
  · subst h1; simp [hb]
  · by_cases h2 : a = v
    · subst h2; simp [h1, ha]
    · have h1' : ¬ v = b := fun e => h1 e.symm
      have h2' : ¬ v = a := fun e => h2 e.symm
      simp [h1, h2, h1', h2']
theorem relaxL_le (l : List Nat) (e : Nat × Nat) (v : Nat) : (relaxL l e).getD v 0 ≤ l.getD v 0 := by
  simp only [relaxL, getD_set, List.length_set]
  split
  · rename_i h; obtain ⟨rfl, _⟩ := h; exact Nat.min_le_right _ _
  · split
    · rename_i h; obtain ⟨rfl, _⟩ := h; exact Nat.min_le_left _ _
    · exact Nat.le_refl _
theorem Good.edge_mem {N : Nat} {es : List (Nat × Nat)} (h : Good N es) {a b : Nat} (he : (a, b) ∈ es) : b ∈ nb es a ∧ a ∈ nb es b := by
  have hl : ∀ e ∈ es, e.1 ≠ e.2 := fun e he => by have := h.lt e he; omega
  rw [mem_nb hl, mem_nb hl]
  exact ⟨.inl he, .inr he⟩
theorem relaxL_ok {N : Nat} {es : List (Nat × Nat)} {o lab : Nat → Nat} (hG : Good N es) (h : Lev N (nb es) o lab) : Relax N relaxL lab es fun _ _ => True where
  len l e := by simp [relaxL]
  le := relaxL_le
  ge l hl e he hg v hv := by
    obtain ⟨a, b⟩ := e
    have := hG.lt _ he
    dsimp only at this
    have ha := hg a (by omega)
    have hb := hg b (by omega)
    have hab := (h.edge a (by omega) b (hG.edge_mem he).1).1
    rw [relaxL_at l a b v (by omega) (by omega)]
    split
    · rename_i hv'
      rcases hv' with rfl | rfl <;> omega
    · exact hg v hv
  give l hl e he hg a b hab _ hx := by
    have key : ∀ x y, (x, y) ∈ es → ((x = a ∧ y = b) ∨ (x = b ∧ y = a)) → (relaxL l (x, y)).getD b 0 = lab b := by
      intro x y hxy hh
      have := hG.lt _ hxy
      dsimp only at this
      have h1 := hg x (by omega)
      have h2 := hg y (by omega)
      have h3 := (h.edge x (by omega) y (hG.edge_mem hxy).1).1
      rw [relaxL_at l x y b (by omega) (by omega)]
      rcases hh with ⟨rfl, rfl⟩ | ⟨rfl, rfl⟩
      · rw [if_pos (.inr rfl)]; omega
      · rw [if_pos (.inl rfl)]; omega
    rcases hab with rfl | rfl
    · exact key a b he (.inl ⟨rfl, rfl⟩)
    · exact key b a he (.inr ⟨rfl, rfl⟩)
theorem list_of_getD {N : Nat} {l : List Nat} {t : Nat → Nat} (hl : l.length = N) (h : ∀ v, v < N → l.getD v 0 = t v) : l = (List.range N).map t := by
  apply List.ext_getElem?
  intro k
  by_cases hk : k < N
  · have := h k hk
    rw [List.getElem?_eq_getElem (by omega)]
    simp only [List.getD_eq_getElem?_getD, List.getElem?_eq_getElem (show k < l.length by omega), Option.getD_some] at this
    simp [hk, this]
  · rw [List.getElem?_eq_none (by omega), List.getElem?_eq_none (by simp; omega)]
theorem Lev.steps {N : Nat} {es : List (Nat × Nat)} {o lab : Nat → Nat} (hG : Good N es) (h : Lev N (nb es) o lab) : ∀ v k, v < N → o v = k + 1 → ∃ u, u < N ∧ o u = k ∧ ((u, v) ∈ es ∨ (v, u) ∈ es) := by
  intro v k hv hk
  obtain ⟨u, hu, hou⟩ := h.up v k hv hk
  have hm := (mem_nb (fun e he => by have := hG.lt e he; omega)).1 hu
  exact ⟨u, hG.adj.lt v hv u hu, hou, hm.symm⟩
theorem ref_labels {N : Nat} {es : List (Nat × Nat)} {o lab : Nat → Nat} (hG : Good N es) (h : Lev N (nb es) o lab) : rounds relaxL es N (List.range N) = (List.range N).map lab := by
  have hgd : ∀ v, v < N → (List.range N).getD v 0 = v := fun v hv => by simp [hv]
  obtain ⟨h1, _, h3⟩ := (relaxL_ok hG h).rounds (o := o) (l := List.range N) (by simp) (fun v hv => by rw [hgd v hv]; exact h.le v hv) (fun v hv h0 => by rw [hgd v hv]; exact ((h.root v hv).1 h0).symm)
    (fun v k hv hk => (h.steps hG v k hv hk).imp fun u hu => ⟨hu.1, hu.2.1, trivial, hu.2.2⟩) N
  exact list_of_getD h1 fun v hv => h3 v hv (Nat.le_of_lt (h.lt hG.adj v hv))
end Fil
end
section
namespace Fil
/-- is an edge between u and v? -/
def between (u v : Int) (e : E) : Bool := decide (e.1 = u ∧ e.2.1 = v ∨ e.1 = v ∧ e.2.1 = u)
def findK (es : List E) (u v : Int) : Int := match es.findIdx? (between u v) with | some i => (i : Int) | none => -1
theorem findK_ge {es : List E} {u v : Int} : 0 ≤ findK es u v ↔ ∃ e ∈ es, between u v e = true := by
  unfold findK
  cases h : es.findIdx? (between u v) with
  | none =>
    rw [List.findIdx?_eq_none_iff] at h
    simp only [show ¬ (0 : Int) ≤ -1 by omega, false_iff]
    rintro ⟨e, he, h2⟩
    rw [h e he] at h2
    simp at h2
  | some i =>
    obtain ⟨hi, h2, _⟩ := List.findIdx?_eq_some_iff_getElem.1 h
    simp only [show (0 : Int) ≤ (i : Int) by omega, true_iff]
    exact ⟨_, List.getElem_mem hi, h2⟩
def isNext (es : List E) (u v : Nat) : Bool := decide (0 ≤ findK es (u : Int) (v : Int))
theorem isNext_iff {n : Int} {es : List E} (hR : RightG n es) {u v : Nat} : isNext es u v = true ↔ v ∈ nb (tn es) u := by
  rw [isNext, decide_eq_true_iff, findK_ge, mem_nb (fun e he => by have := hR.good.lt e he; omega)]
  simp only [between, decide_eq_true_iff, tn, List.mem_map, Prod.mk.injEq]
  constructor
  · rintro ⟨e, he, h | h⟩
    · exact .inl ⟨e, he, by omega, by omega⟩
    · exact .inr ⟨e, he, by omega, by omega⟩
  · rintro (⟨e, he, h1, h2⟩ | ⟨e, he, h1, h2⟩)
    · obtain ⟨q1, q2, _⟩ := hR.ok e he
      exact ⟨e, he, .inl ⟨by omega, by omega⟩⟩
    · obtain ⟨q1, q2, _⟩ := hR.ok e he
      exact ⟨e, he, .inr ⟨by omega, by omega⟩⟩
theorem nb_nodup {n : Int} {es : List E} (hR : RightG n es) (u : Nat) : (nb (tn es) u).Nodup := by
  rw [nb, List.Nodup, List.pairwise_filterMap, tn, List.pairwise_map]
  refine List.Pairwise.imp_of_mem ?_ hR.sorted
  intro a b ha hb hab x hx y hy
  obtain ⟨a1, a2, _⟩ := hR.ok a ha
  obtain ⟨b1, b2, _⟩ := hR.ok b hb
  dsimp only [ltE] at hab
  dsimp only at hx hy
  split at hx <;> split at hy
  · simp only [Option.some.injEq] at hx hy; omega
  · split at hy
    · simp only [Option.some.injEq] at hx hy; omega
    · simp at hy
  · split at hx
    · simp only [Option.some.injEq] at hx hy; omega
    · simp at hx
  · split at hx
    · split at hy
      · simp only [Option.some.injEq] at hx hy; omega
      · simp at hy
    · simp at hx
theorem near_eq {n : Int} {es : List E} (hR : RightG n es) {u : Nat} (hu : u < n.toNat) : (List.range n.toNat).filter (isNext es u) = nearS (tn es) u := by
  have hn := nb_nodup hR u
  refine List.Perm.eq_of_pairwise (le := fun a b => a ≤ b) (fun a b _ _ h1 h2 => Nat.le_antisymm h1 h2) ?_ ?_ ?_
  · exact (List.pairwise_lt_range.imp fun h => Nat.le_of_lt h).filter _
  · have := List.pairwise_mergeSort (le := fun (x y : Nat) => decide (x ≤ y)) (fun a b c h1 h2 => by simp at *; omega) (fun a b => by simp; omega) (nb (tn es) u)
    exact this.imp fun h => by simpa using h
  · refine ((List.perm_ext_iff_of_nodup (List.nodup_range.filter _) hn).2 fun v => ?_).trans (List.mergeSort_perm _ _).symm
    rw [List.mem_filter, List.mem_range, isNext_iff hR]
    exact ⟨fun h => h.2, fun h => ⟨hR.good.adj.lt u hu v h, h⟩⟩
end Fil
namespace Go.Proofs.Ytpajjnkmaebhcab
open Go.RowKit Go.Sl Fil
set_option maxRecDepth 100000
set_option maxHeartbeats 8000000
set_option linter.unusedVariables false
set_option linter.unusedSimpArgs false
attribute [local irreducible] Code.wp wpList bodyPost wpQuiet Exit.then Exit.inBlock Post wpAnyH wpOp
theorem Find_ok (n : Int) (v : Value) (es : List E) (x y : Int) (w : World) (hs : Shp v es.length) (hr : RO w No v (esV es)) :
    Calls Try.prog 27 #[.agg #[.int .i64 n, v], .int .i64 x, .int .i64 y] w (Post w No (Just (.int .i64 (findK es x y)))) := by
  have hm := hs.1
  simp only [maxLen] at hm
  refine enter0 (vs := [_, _, _]) Try.func27 rfl Try.ntmps27 rfl ?_
  repeat' first
    | refine k_then ?_ | refine c_seq ?_ | refine c_region ?_ | refine s_nil ?_ | refine s_assign (by exact rfl) (by exact rfl) ?_ | refine o_box (by exact rfl) (by exact rfl) (fun b => ?_) | refine c_block ?_
  refine c_loop (fun k : Nat => k ≤ es.length ∧ ∀ e ∈ es.take k, between x y e = false) (fun k => [(1, .int .i64 x), (2, .int .i64 y), (3, .pointer (some ⟨b, 0, none⟩)), (7, .int .i64 (k : Int))]) (fun _ => [boxHP b 24 [.int .i64 n, v]]) (fun k => es.length - k) 0 [0] ⟨by omega, by simp⟩ rfl ⟨rfl, rfl, rfl, rfl, trivial⟩ ?_
  rintro k ⟨hk, hq⟩
  by_cases hlt : k < es.length
  · obtain ⟨e, he⟩ : ∃ e, es[k]? = some e := ⟨_, List.getElem?_eq_getElem hlt⟩
    obtain ⟨hE0, hE1, hE2⟩ := esV_get he
    cases hbt : between x y e
    · have hn : ¬ (e.1 = x ∧ e.2.1 = y ∨ e.1 = y ∧ e.2.1 = x) := by simpa [between] using hbt
      repeat' first
        | refine k_then ?_ | refine c_seq ?_ | refine c_region ?_ | refine s_nil ?_ | refine s_move (by exact rfl) (by exact rfl) ?_ | refine s_assign (by exact rfl) (by exact rfl) ?_ | refine s_fa (by exact rfl) (by exact rfl) ?_ | refine s_ld_box (by exact rfl) (by exact rfl) (by exact .head _) (by exact rfl) ?_ | refine s_lss (by exact rfl) (by exact rfl) (by exact rfl) ?_ | refine s_eql (by exact rfl) (by exact rfl) (by exact rfl) ?_ | refine s_add (by exact rfl) (by exact rfl) (by exact rfl) (by omega) ?_ | refine s_len (by exact rfl) (by exact rfl) (by assumption) ?_ | refine s_idx (by exact rfl) (by exact rfl) (by exact rfl) (by assumption) (by first | assumption | omega) ?_ | refine s_fap (by exact rfl) (by exact rfl) (by assumption) (by omega) ?_ | refine s_pick_t (by exact rfl) (by exact rfl) (by exact rfl) ?_ | refine s_pick_f (by exact rfl) (by exact rfl) (by exact rfl) ?_ | refine s_ld_ro (by exact rfl) (by exact rfl) (by assumption) (by assumption) ?_ | refine c_block ?_ | refine c_skip ?_ | refine k_blk ?_ | (refine c_cond_p (by exact rfl) (fun h => ?_) (fun h => ?_) <;> try (exfalso; omega)) | refine c_cond_f (by exact rfl) ?_ | (refine g_case (by exact rfl) (by exact rfl) (fun h => ?_) (fun h => ?_) <;> try (exfalso; omega)) | refine g_skip (by exact rfl) (by exact rfl) (by exact rfl) (by exact rfl) ?_ | refine w_move (by exact rfl) (by exact rfl) (by exact rfl) (by exact rfl) ?_ | refine w_fa (by exact rfl) (by exact rfl) (by exact rfl) (by exact rfl) ?_ | refine w_ld_box (by exact rfl) (by exact rfl) (by exact rfl) (by exact rfl) (by exact .head _) (by exact rfl) ?_ | refine w_eql (by exact rfl) (by exact rfl) (by exact rfl) (by exact rfl) (by exact rfl) ?_ | refine w_idx (by exact rfl) (by exact rfl) (by exact rfl) (by exact rfl) (by exact rfl) (by assumption) (by first | assumption | omega) ?_ | refine w_fap (by exact rfl) (by exact rfl) (by exact rfl) (by exact rfl) (by assumption) (by omega) ?_ | refine w_pick_t (by exact rfl) (by exact rfl) (by exact rfl) (by exact rfl) (by exact rfl) ?_ | refine w_pick_f (by exact rfl) (by exact rfl) (by exact rfl) (by exact rfl) (by exact rfl) ?_ | refine w_ld_ro (by exact rfl) (by exact rfl) (by exact rfl) (by exact rfl) (by assumption) (by assumption) ?_
      all_goals
        refine c_round (k + 1) [0] (by exact rfl) (by exact ⟨rfl, rfl, rfl, rfl, trivial⟩) ⟨by omega, ?_⟩ (by omega)
        rw [List.take_add_one, he]
        intro a ha
        rcases List.mem_append.1 ha with ha | ha
        · exact hq a ha
        · obtain rfl : a = e := by simpa using ha
          exact hbt
    · have hp : e.1 = x ∧ e.2.1 = y ∨ e.1 = y ∧ e.2.1 = x := by simpa [between] using hbt
      have hfk : findK es x y = (k : Int) := by
        have : es.findIdx? (between x y) = some k := by
          rw [List.findIdx?_eq_some_iff_getElem]
          obtain ⟨h1, h2⟩ := List.getElem?_eq_some_iff.1 he
          refine ⟨h1, by rw [h2]; exact hbt, fun j hj => ?_⟩
          rw [hq _ (List.mem_take_iff_getElem.2 ⟨j, by omega, rfl⟩)]
          simp
        rw [findK, this]
      repeat' first
        | refine k_then ?_ | refine c_seq ?_ | refine c_region ?_ | refine s_nil ?_ | refine s_move (by exact rfl) (by exact rfl) ?_ | refine s_assign (by exact rfl) (by exact rfl) ?_ | refine s_fa (by exact rfl) (by exact rfl) ?_ | refine s_ld_box (by exact rfl) (by exact rfl) (by exact .head _) (by exact rfl) ?_ | refine s_lss (by exact rfl) (by exact rfl) (by exact rfl) ?_ | refine s_eql (by exact rfl) (by exact rfl) (by exact rfl) ?_ | refine s_len (by exact rfl) (by exact rfl) (by assumption) ?_ | refine s_idx (by exact rfl) (by exact rfl) (by exact rfl) (by assumption) (by first | assumption | omega) ?_ | refine s_fap (by exact rfl) (by exact rfl) (by assumption) (by omega) ?_ | refine s_pick_t (by exact rfl) (by exact rfl) (by exact rfl) ?_ | refine s_pick_f (by exact rfl) (by exact rfl) (by exact rfl) ?_ | refine s_ld_ro (by exact rfl) (by exact rfl) (by assumption) (by assumption) ?_ | refine c_block ?_ | refine c_skip ?_ | refine c_ret ?_ | refine k_then_ret ?_ | refine k_blk_ret ?_ | (refine c_cond_p (by exact rfl) (fun h => ?_) (fun h => ?_) <;> try (exfalso; omega)) | refine c_cond_t (by exact rfl) ?_ | (refine g_case (by exact rfl) (by exact rfl) (fun h => ?_) (fun h => ?_) <;> try (exfalso; omega)) | refine g_skip (by exact rfl) (by exact rfl) (by exact rfl) (by exact rfl) ?_ | refine w_move (by exact rfl) (by exact rfl) (by exact rfl) (by exact rfl) ?_ | refine w_fa (by exact rfl) (by exact rfl) (by exact rfl) (by exact rfl) ?_ | refine w_ld_box (by exact rfl) (by exact rfl) (by exact rfl) (by exact rfl) (by exact .head _) (by exact rfl) ?_ | refine w_eql (by exact rfl) (by exact rfl) (by exact rfl) (by exact rfl) (by exact rfl) ?_ | refine w_idx (by exact rfl) (by exact rfl) (by exact rfl) (by exact rfl) (by exact rfl) (by assumption) (by first | assumption | omega) ?_ | refine w_fap (by exact rfl) (by exact rfl) (by exact rfl) (by exact rfl) (by assumption) (by omega) ?_ | refine w_pick_t (by exact rfl) (by exact rfl) (by exact rfl) (by exact rfl) (by exact rfl) ?_ | refine w_ld_ro (by exact rfl) (by exact rfl) (by exact rfl) (by exact rfl) (by assumption) (by assumption) ?_
      all_goals refine ret1 [] rfl rfl rfl ⟨by rw [hfk], rfl⟩
  · repeat' first
      | refine k_then ?_ | refine c_seq ?_ | refine c_region ?_ | refine s_nil ?_ | refine s_move (by exact rfl) (by exact rfl) ?_ | refine s_assign (by exact rfl) (by exact rfl) ?_ | refine s_fa (by exact rfl) (by exact rfl) ?_ | refine s_ld_box (by exact rfl) (by exact rfl) (by exact .head _) (by exact rfl) ?_ | refine s_lss (by exact rfl) (by exact rfl) (by exact rfl) ?_ | refine s_len (by exact rfl) (by exact rfl) (by assumption) ?_ | refine c_exit ?_ | refine c_ret ?_ | refine k_then_exit ?_ | refine k_blk_eq ?_ | (refine c_cond_p (by exact rfl) (fun h => ?_) (fun h => ?_) <;> try (exfalso; omega))
    rw [List.take_of_length_le (by omega)] at hq
    refine ret1 [] rfl rfl rfl ⟨?_, rfl⟩
    have : es.findIdx? (between x y) = none := List.findIdx?_eq_none_iff.2 hq
    rw [findK, this]
theorem refNear_ok (n : Int) (v : Value) (es : List E) (w : World) (hs : Shp v es.length) (hr : RO w No v (esV es)) (hR : RightG n es) :
    Calls Try.prog 17 #[.agg #[.int .i64 n, v]] w (Post w No fun r L' => ∃ hs : List Value, hs.length = n.toNat ∧ L' = [rowHP r 25 1 n.toNat hs, starHP (kids rowN hs ((List.range n.toNat).map (nearS (tn es))))]) := by
  have hlo := hR.lo
  have hhi := hR.hi
  have hm : es.length < 4611686018427387904 := by have := hR.many; omega
  refine enter0 (vs := [_]) Try.func17 rfl Try.ntmps17 rfl ?_
  repeat' first
    | refine k_then ?_ | refine c_seq ?_ | refine c_region ?_ | refine s_nil ?_ | refine s_assign (by exact rfl) (by exact rfl) ?_ | refine s_fa (by exact rfl) (by exact rfl) ?_ | refine s_ld_box (by exact rfl) (by exact rfl) (by exact .head _) (by exact rfl) ?_ | refine o_box (by exact rfl) (by exact rfl) (fun b => ?_)
  refine o_make (by exact rfl) (by exact rfl) (by exact rfl) (by omega) (by omega) fun vo hvo => ?_
  rw [made1 rfl]
  have hnear := fun u (hu : u < n.toNat) => near_eq hR hu
  repeat' first
    | refine k_then ?_ | refine c_seq ?_ | refine c_region ?_ | refine s_nil ?_ | refine s_assign (by exact rfl) (by exact rfl) ?_ | refine c_block ?_
  generalize hN : n.toNat = N at *
  have hnN : n = (N : Int) := by omega
  subst hnN
  let part : Nat → Nat → Nat → List Nat := fun u m w => if w < u then (List.range N).filter (isNext es w) else if w = u then (List.range m).filter (isNext es w) else []
  refine c_nils 3 1 N ?_
  refine c_loop (fun x : Nat × List Value => x.1 ≤ N ∧ x.2.length = N) (fun x => [(1, .pointer (some ⟨b, 0, none⟩)), (3, vo), (4, .int .i64 (x.1 : Int))]) (fun x => [rowHP vo 25 1 N x.2, starHP (kids rowN x.2 ((List.range N).map (part x.1 0))), boxHP b 24 [.int .i64 (N : Int), v]]) (fun x => N - x.1) (0, List.replicate N (.slice none 0 0)) [1, 0, 0] ⟨by omega, by simp⟩ ?_ ⟨rfl, rfl, rfl, trivial⟩ ?_
  · rw [show (List.range N).map (part 0 0) = List.replicate N [] from by
      rw [List.eq_replicate_iff]
      refine ⟨by simp, fun x hx => ?_⟩
      obtain ⟨w, _, rfl⟩ := List.mem_map.1 hx
      simp only [part]
      split
      · omega
      · split <;> simp]
    rw [kids_nils]
    rfl
  rintro ⟨u, hs0⟩ ⟨hu, hl0⟩
  dsimp only at hu hl0 ⊢
  by_cases hul : u < N
  · repeat' first
      | refine k_then ?_ | refine c_seq ?_ | refine c_region ?_ | refine s_nil ?_ | refine s_move (by exact rfl) (by exact rfl) ?_ | refine s_assign (by exact rfl) (by exact rfl) ?_ | refine s_fa (by exact rfl) (by exact rfl) ?_ | refine s_ld_box (by exact rfl) (by exact rfl) (by exact .tail _ (.tail _ (.head _))) (by exact rfl) ?_ | refine s_lss (by exact rfl) (by exact rfl) (by exact rfl) ?_ | refine c_block ?_ | refine c_skip ?_ | (refine c_cond_p (by exact rfl) (fun h => ?_) (fun h => ?_) <;> try (exfalso; omega))
    refine c_loop (fun x : Nat × List Value => x.1 ≤ N ∧ x.2.length = N) (fun x => [(1, .pointer (some ⟨b, 0, none⟩)), (3, vo), (4, .int .i64 (u : Int)), (5, .int .i64 (x.1 : Int))]) (fun x => [rowHP vo 25 1 N x.2, starHP (kids rowN x.2 ((List.range N).map (part u x.1))), boxHP b 24 [.int .i64 (N : Int), v]]) (fun x => N - x.1) (0, hs0) [0, 0, 0] ⟨by omega, hl0⟩ (by exact rfl) ⟨rfl, rfl, rfl, rfl, trivial⟩ ?_
    clear hl0
    clear hs0
    rintro ⟨m, hs0⟩ ⟨hmN, hl0⟩
    dsimp only at hmN hl0 ⊢
    by_cases hml : m < N
    · repeat' first
        | refine k_then ?_ | refine c_seq ?_ | refine c_region ?_ | refine s_nil ?_ | refine s_move (by exact rfl) (by exact rfl) ?_ | refine s_fa (by exact rfl) (by exact rfl) ?_ | refine s_ld_box (by exact rfl) (by exact rfl) (by exact .tail _ (.tail _ (.head _))) (by exact rfl) ?_ | refine s_lss (by exact rfl) (by exact rfl) (by exact rfl) ?_ | refine s_ldk_box (by exact rfl) (by exact rfl) (by exact .tail _ (.tail _ (.head _))) (by exact rfl) (by exact rfl) ?_ | refine c_block ?_ | refine c_skip ?_ | (refine c_cond_p (by exact rfl) (fun h => ?_) (fun h => ?_) <;> try (exfalso; omega))
      refine s_call (by exact rfl) (by exact rfl) (fun w h => Find_ok N v es u m w hs (ro_old h hr)) ?_
      have hrow : (List.range (m + 1)).filter (isNext es u) = (List.range m).filter (isNext es u) ++ (if isNext es u m then [m] else []) := by
        rw [List.range_succ, List.filter_append]
        simp [List.filter_cons]
      have hpart : (List.range N).map (part u (m + 1)) = ((List.range N).map (part u m)).set u ((List.range (m + 1)).filter (isNext es u)) := by
        apply List.ext_getElem?
        intro k
        simp only [List.getElem?_set, List.getElem?_map, List.length_map, List.length_range]
        by_cases hk : k < N
        · rw [List.getElem?_range hk]
          by_cases hku : u = k
          · subst hku
            simp [part, hk]
          · simp only [hku, if_false, Option.map_some, part]
            have : ¬ k = u := fun e => hku e.symm
            simp [this]
        · rw [List.getElem?_eq_none (by simpa using hk)]
          have : ¬ u = k := by omega
          simp [this]
      have hpu : ((List.range N).map (part u m))[u]? = some ((List.range m).filter (isNext es u)) := by simp [part, hul]
      have hcnt : ((List.range m).filter (isNext es u)).length ≤ m := by
        have := List.length_filter_le (isNext es u) (List.range m)
        simpa using this
      cases hnx : isNext es u m
      · have hneg : ¬ (0 ≤ findK es (u : Int) (m : Int)) := by simpa [isNext] using hnx
        rw [hnx, if_neg (by simp), List.append_nil] at hrow
        repeat' first
          | refine k_then ?_ | refine c_region ?_ | refine s_nil ?_ | refine s_move (by exact rfl) (by exact rfl) ?_ | refine s_assign (by exact rfl) (by exact rfl) ?_ | refine s_geq (by exact rfl) (by exact rfl) (by exact rfl) ?_ | refine s_add (by exact rfl) (by exact rfl) (by exact rfl) (by omega) ?_ | refine c_skip ?_ | refine k_blk ?_ | (refine c_cond_p (by exact rfl) (fun h => ?_) (fun h => ?_) <;> try (exfalso; omega))
        refine c_round (m + 1, hs0) [0, 0, 0] ?_ (by exact ⟨rfl, rfl, rfl, rfl, trivial⟩) ⟨by dsimp only; omega, hl0⟩ (by dsimp only; omega)
        dsimp only
        rw [hpart, hrow, show ((List.range N).map (part u m)).set u ((List.range m).filter (isNext es u)) = (List.range N).map (part u m) from by
          apply List.ext_getElem?
          intro k
          rw [List.getElem?_set]
          split
          · rename_i e; subst e; rw [hpu]; simp [hul]
          · rfl]
        rfl
      · have hpos : 0 ≤ findK es (u : Int) (m : Int) := by simpa [isNext] using hnx
        rw [hnx, if_pos rfl] at hrow
        obtain ⟨hd, hhd⟩ : ∃ hd, hs0[u]? = some hd := ⟨_, List.getElem?_eq_getElem (by omega)⟩
        have hhd1 : hs0[u * 1]? = some hd := by simpa using hhd
        repeat' first
          | refine k_then ?_ | refine c_region ?_ | refine s_nil ?_ | refine s_move (by exact rfl) (by exact rfl) ?_ | refine s_geq (by exact rfl) (by exact rfl) (by exact rfl) ?_ | refine s_idx (by exact rfl) (by exact rfl) (by exact rfl) (by assumption) (by first | assumption | omega) ?_ | refine s_ld_row (by exact rfl) (by exact rfl) (by exact .head _) (by assumption) ?_ | (refine c_cond_p (by exact rfl) (fun h => ?_) (fun h => ?_) <;> try (exfalso; omega))
        refine o_mk [.int .i64 (m : Int)] (by exact rfl) (by exact rfl) rfl ?_ ?_ (by simp) fun vt hvt => ?_
        · simp [Value.cells]
        · simp
        skip
        refine c_take 2 u (by exact rfl) (kids_get hhd hpu) ?_
        refine c_pick [0, 1, 0, 0, 0] (by exact rfl) ?_
        refine o_append_row (i := 0) (by exact rfl) (by exact rfl) (by exact rfl) (by exact rfl) (by exact .tail _ (.tail _ (.head _))) (by exact rfl) (by simp [Value.cells, Value.oneCell']) ?_ fun vk hvk => ?_
        · omega
        repeat' first
          | refine s_idx (by exact rfl) (by exact rfl) (by exact rfl) (by assumption) (by first | assumption | omega) ?_
        refine o_st_row (i := 1) (by exact rfl) (by exact rfl) (by exact rfl) hvk.one (by omega) ?_
        repeat' first
          | refine k_then ?_ | refine c_region ?_ | refine s_nil ?_ | refine s_move (by exact rfl) (by exact rfl) ?_ | refine s_assign (by exact rfl) (by exact rfl) ?_ | refine s_add (by exact rfl) (by exact rfl) (by exact rfl) (by omega) ?_ | refine k_blk ?_
        refine c_pick [0, 0, 1, 1] (by exact rfl) ?_
        have e1 : rowHP vk 3 1 (((List.range m).filter (isNext es u)).length + 1) (nV ((List.range m).filter (isNext es u)) ++ [Value.int .i64 (m : Int)]) = rowN vk ((List.range (m + 1)).filter (isNext es u)) := by
          rw [hrow]
          exact rowN_snoc _ _ _
        refine c_give 1 u (by exact rfl) (by simp [kids, hl0, hul]) ?_
        refine c_round (m + 1, hs0.set u vk) [0, 0, 0] ?_ (by exact ⟨rfl, rfl, rfl, rfl, trivial⟩) ⟨by dsimp only; omega, by simpa using hl0⟩ (by dsimp only; omega)
        dsimp only
        rw [hpart, ← kids_set (x := empHP), ← e1, Nat.mul_one]
        rfl
    · repeat' first
        | refine k_then ?_ | refine c_seq ?_ | refine c_region ?_ | refine s_nil ?_ | refine s_move (by exact rfl) (by exact rfl) ?_ | refine s_assign (by exact rfl) (by exact rfl) ?_ | refine s_fa (by exact rfl) (by exact rfl) ?_ | refine s_ld_box (by exact rfl) (by exact rfl) (by exact .tail _ (.tail _ (.head _))) (by exact rfl) ?_ | refine s_lss (by exact rfl) (by exact rfl) (by exact rfl) ?_ | refine s_add (by exact rfl) (by exact rfl) (by exact rfl) (by omega) ?_ | refine c_exit ?_ | refine k_then_exit ?_ | refine k_blk ?_ | refine k_blk_eq ?_ | (refine c_cond_p (by exact rfl) (fun h => ?_) (fun h => ?_) <;> try (exfalso; omega))
      obtain rfl : m = N := by omega
      refine c_round (u + 1, hs0) [0, 0, 0] ?_ (by exact ⟨rfl, rfl, rfl, trivial⟩) ⟨by dsimp only; omega, hl0⟩ (by dsimp only; omega)
      dsimp only
      rw [show (List.range m).map (part (u + 1) 0) = (List.range m).map (part u m) from by
        apply List.map_congr_left
        intro w _
        simp only [part]
        by_cases h1 : w < u
        · rw [if_pos h1, if_pos (by omega)]
        · rw [if_neg h1]
          by_cases h2 : w = u
          · rw [if_pos h2, if_pos (by omega)]
          · rw [if_neg h2, if_neg (by omega)]
            split <;> simp]
      rfl
  · repeat' first
      | refine k_then ?_ | refine c_seq ?_ | refine c_region ?_ | refine s_nil ?_ | refine s_move (by exact rfl) (by exact rfl) ?_ | refine s_assign (by exact rfl) (by exact rfl) ?_ | refine s_fa (by exact rfl) (by exact rfl) ?_ | refine s_ld_box (by exact rfl) (by exact rfl) (by exact .tail _ (.tail _ (.head _))) (by exact rfl) ?_ | refine s_lss (by exact rfl) (by exact rfl) (by exact rfl) ?_ | refine c_exit ?_ | refine c_ret ?_ | refine k_then_exit ?_ | refine k_blk_eq ?_ | (refine c_cond_p (by exact rfl) (fun h => ?_) (fun h => ?_) <;> try (exfalso; omega))
    obtain rfl : u = N := by omega
    refine ret1 [0, 0] rfl rfl rfl ⟨hs0, hl0, ?_⟩
    rw [show (List.range u).map (part u 0) = (List.range u).map (nearS (tn es)) from by
      apply List.map_congr_left
      intro w hw
      have hw : w < u := by simpa using hw
      simp only [part]
      rw [if_pos hw, hnear w hw]]
end Go.Proofs.Ytpajjnkmaebhcab
end
section
namespace Go.Proofs.Ytpajjnkmaebhcab
open Go.RowKit Go.Sl Fil
set_option maxRecDepth 100000
set_option maxHeartbeats 8000000
set_option linter.unusedVariables false
set_option linter.unusedSimpArgs false
attribute [local irreducible] Code.wp wpList bodyPost wpQuiet Exit.then Exit.inBlock Post wpAnyH wpOp
end Go.Proofs.Ytpajjnkmaebhcab
end
section
namespace Go.Proofs.Ytpajjnkmaebhcab
open Go.RowKit Go.Sl Fil
set_option maxRecDepth 100000
set_option maxHeartbeats 8000000
set_option linter.unusedVariables false
set_option linter.unusedSimpArgs false
attribute [local irreducible] Code.wp wpList bodyPost wpQuiet Exit.then Exit.inBlock Post wpAnyH wpOp
end Go.Proofs.Ytpajjnkmaebhcab
end
section
set_option linter.unusedVariables false
namespace Fil
def lenF (A : Nat → Option (List Nat)) (v : Nat) : Nat := ((A v).getD []).length
def fewStep (A : Nat → Option (List Nat)) (best : Option Nat) (i : Nat) : Option Nat := match A i with
  | none => best
  | some l => match best with
    | none => some i
    | some b => if l.length < lenF A b then some i else some b
def fewI (A : Nat → Option (List Nat)) (i : Nat) : Option Nat := (List.range i).foldl (fewStep A) none
theorem fewI_succ (A : Nat → Option (List Nat)) (i : Nat) : fewI A (i + 1) = fewStep A (fewI A i) i := by simp [fewI, List.range_succ]
theorem fewI_some {A : Nat → Option (List Nat)} : ∀ {i b : Nat}, fewI A i = some b → b < i ∧ ∃ l, A b = some l
  | 0, b, h => by simp [fewI] at h
  | i + 1, b, h => by
    rw [fewI_succ] at h
    unfold fewStep at h
    cases hA : A i with
    | none =>
      rw [hA] at h
      obtain ⟨h1, h2⟩ := fewI_some h
      exact ⟨by omega, h2⟩
    | some l =>
      rw [hA] at h
      dsimp only at h
      cases hf : fewI A i with
      | none =>
        rw [hf] at h
        obtain rfl : i = b := by simpa using h
        exact ⟨by omega, l, hA⟩
      | some c =>
        rw [hf] at h
        dsimp only at h
        obtain ⟨h1, h2⟩ := fewI_some hf
        split at h
        · obtain rfl : i = b := by simpa using h
          exact ⟨by omega, l, hA⟩
        · obtain rfl : c = b := by simpa using h
          exact ⟨by omega, h2⟩
theorem fewI_congr {A B : Nat → Option (List Nat)} : ∀ {i : Nat}, (∀ v, v < i → (A v).map List.length = (B v).map List.length) → fewI A i = fewI B i
  | 0, _ => rfl
  | i + 1, h => by
    rw [fewI_succ, fewI_succ, fewI_congr (fun v hv => h v (by omega))]
    have hi := h i (by omega)
    unfold fewStep
    cases hA : A i <;> cases hB : B i <;> rw [hA, hB] at hi <;> simp at hi ⊢
    cases hf : fewI B i with
    | none => rfl
    | some c =>
      obtain ⟨hc, _⟩ := fewI_some hf
      have hcl := h c (by omega)
      have : lenF A c = lenF B c := by
        unfold lenF
        cases hA' : A c <;> cases hB' : B c <;> rw [hA', hB'] at hcl <;> simp at hcl ⊢
        exact hcl
      dsimp only
      rw [this, hi]
/-- v goes; it is no longer next to those of l -/
def takeF (A : Nat → Option (List Nat)) (v : Nat) (l : List Nat) (u : Nat) : Option (List Nat) := if u = v then none else if u ∈ l then (A u).map fun m => m.filter fun a => a ≠ v else A u
def sortN (l : List Nat) : List Nat := l.mergeSort fun x y => decide (x ≤ y)
theorem sortN_perm (l : List Nat) : (sortN l).Perm l := List.mergeSort_perm l _
theorem sortN_sorted (l : List Nat) : (sortN l).Pairwise fun a b => a ≤ b := by
  have := List.pairwise_mergeSort (le := fun (x y : Nat) => decide (x ≤ y)) (fun a b c h1 h2 => by simp at *; omega) (fun a b => by simp; omega) l
  exact this.imp fun h => by simpa using h
theorem sortN_congr {l m : List Nat} (h : l.Perm m) : sortN l = sortN m :=
  List.Perm.eq_of_pairwise (le := fun a b => a ≤ b) (fun a b _ _ h1 h2 => Nat.le_antisymm h1 h2) (sortN_sorted l) (sortN_sorted m) ((sortN_perm l).trans (h.trans (sortN_perm m).symm))
theorem nodup_length {l : List Nat} {N : Nat} (h : l.Nodup) (hN : ∀ u ∈ l, u < N) : l.length ≤ N := by
  have hp := (List.perm_ext_iff_of_nodup h (List.nodup_range.filter fun u => decide (u ∈ l)) (l₂ := (List.range N).filter fun u => decide (u ∈ l))).2 fun u => by
    simp only [List.mem_filter, List.mem_range, decide_eq_true_eq]
    exact ⟨fun hu => ⟨hN u hu, hu⟩, fun hu => hu.2⟩
  have h1 := hp.length_eq
  have h2 := List.length_filter_le (fun u => decide (u ∈ l)) (List.range N)
  rw [List.length_range] at h2
  omega
theorem range_set {α : Type} {g g' : Nat → α} {N i : Nat} (h : ∀ u, u < N → u ≠ i → g u = g' u) : ((List.range N).map g).set i (g' i) = (List.range N).map g' := by
  apply List.ext_getElem?
  intro k
  simp only [List.getElem?_set, List.getElem?_map, List.length_map, List.length_range]
  by_cases hk : k < N
  · rw [List.getElem?_range hk]
    by_cases hki : i = k
    · subst hki; simp [hk]
    · simp only [hki, if_false, Option.map_some]
      rw [h k hk (fun e => hki e.symm)]
  · rw [List.getElem?_eq_none (by simpa using hk)]
    split
    · rw [if_neg (by omega)]; rfl
    · rfl
end Fil
end
section
namespace Go.Proofs.Ytpajjnkmaebhcab
open Go.RowKit Go.Sl Fil
set_option maxRecDepth 100000
set_option maxHeartbeats 8000000
set_option linter.unusedVariables false
set_option linter.unusedSimpArgs false
attribute [local irreducible] Code.wp wpList bodyPost wpQuiet Exit.then Exit.inBlock Post wpAnyH wpOp
end Go.Proofs.Ytpajjnkmaebhcab
end
section
namespace Go.Proofs.Ytpajjnkmaebhcab
open Go.RowKit Go.Sl Fil
set_option maxRecDepth 100000
set_option maxHeartbeats 8000000
set_option linter.unusedVariables false
set_option linter.unusedSimpArgs false
attribute [local irreducible] Code.wp wpList bodyPost wpQuiet Exit.then Exit.inBlock Post wpAnyH wpOp
end Go.Proofs.Ytpajjnkmaebhcab
end
