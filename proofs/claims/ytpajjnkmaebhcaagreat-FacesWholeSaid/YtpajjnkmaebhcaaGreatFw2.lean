/- Of FacesWhole: part 2: what the walks rest on, contracts of functions and plain lemmas; no condition but those that each states. -/
import Derived.Test.YtpajjnkmaebhcaaGreatFw1
import Derived.Maps.Keyed
import Derived.Maps.RangeRun
import Derived.Laws.Cover3
import Derived.Laws.Shifts
import Derived.RangeFuncIn
import Derived.RangeFuncRecord
import Derived.RangeFuncLeaves
import Derived.RangeFuncCalls
import Derived.Sort.LoopGhostIn
import Derived.Shelf.SortM.Plain
import Derived.Shelf.SortM.SortNone
import Derived.Shelf.SlGeneric
import Derived.Ground.SlgmProg
import Derived.Sort.OwnSortedInts
set_option linter.unusedVariables false
set_option linter.unusedSimpArgs false
section
set_option linter.unusedVariables false
set_option linter.unusedSimpArgs false
set_option linter.unusedSectionVars false
namespace Go.Sl
open Go Go.RowKit Go.Maps
open Go.ChangeMaps (setBlock)
section
variable {α β : Type} [DecidableEq α]
def getK (ks : List (α × β)) (a : α) : Option β := (ks.find? fun p => p.1 = a).map (·.2)
def putK (ks : List (α × β)) (a : α) (b : β) : List (α × β) := if a ∈ ks.map Prod.fst then ks.map (fun p => if p.1 = a then (a, b) else p) else ks ++ [(a, b)]
theorem getK_none {ks : List (α × β)} {a : α} (h : a ∉ ks.map Prod.fst) : getK ks a = none := by
  rw [getK, List.find?_eq_none.2, Option.map_none]
  intro p hp
  simp only [decide_eq_true_eq]
  exact fun e => h (List.mem_map.2 ⟨p, hp, e⟩)
theorem getK_some {ks : List (α × β)} {a : α} {b : β} (hn : (ks.map Prod.fst).Nodup) (h : (a, b) ∈ ks) : getK ks a = some b := by
  induction ks with
  | nil => simp at h
  | cons p ks ih =>
    rw [List.map_cons, List.nodup_cons] at hn
    rcases List.mem_cons.1 h with rfl | h
    · simp [getK]
    · have hne : p.1 ≠ a := fun e => hn.1 (by rw [e]; exact List.mem_map.2 ⟨(a, b), h, rfl⟩)
      have := ih hn.2 h
      simp only [getK, List.find?_cons, hne, decide_false] at this ⊢
      exact this
theorem putK_new {ks : List (α × β)} {a : α} {b : β} (h : a ∉ ks.map Prod.fst) : putK ks a b = ks ++ [(a, b)] := if_neg h
theorem putK_keys (ks : List (α × β)) (a : α) (b : β) : (putK ks a b).map Prod.fst = if a ∈ ks.map Prod.fst then ks.map Prod.fst else ks.map Prod.fst ++ [a] := by
  unfold putK
  split
  · rw [List.map_map]
    apply List.map_congr_left
    intro p _
    simp only [Function.comp_apply]
    split
    · rename_i h; exact h.symm
    · rfl
  · simp
theorem putK_nodup {ks : List (α × β)} {a : α} {b : β} (hn : (ks.map Prod.fst).Nodup) : ((putK ks a b).map Prod.fst).Nodup := by
  rw [putK_keys]
  split
  · exact hn
  · rename_i h
    exact List.nodup_append.2 ⟨hn, by simp, fun x hx y hy e => by
      obtain rfl : y = a := by simpa using hy
      exact h (e ▸ hx)⟩
theorem putK_ok {ks : List (α × β)} {a : α} {b : β} {ok : α → Prop} (h : ∀ p ∈ ks, ok p.1) (ha : ok a) : ∀ p ∈ putK ks a b, ok p.1 := by
  intro p hp
  have : p.1 ∈ (putK ks a b).map Prod.fst := List.mem_map.2 ⟨p, hp, rfl⟩
  rw [putK_keys] at this
  have hk : p.1 ∈ ks.map Prod.fst ∨ p.1 = a := by
    split at this
    · exact .inl this
    · simpa using this
  rcases hk with h1 | h1
  · obtain ⟨q, hq, e⟩ := List.mem_map.1 h1
    rw [← e]; exact h q hq
  · rw [h1]; exact ha
end
class MapTy (P : Program) (t : TypeId) (α : outParam Type) (β : outParam Type) (ek : outParam (α → Value)) (ev : outParam (β → Value)) (ok : outParam (α → Prop)) (z : outParam β) (k : outParam TypeId) : Prop where
  e : ∃ e, P.underlying t = some (.map k e) ∧ ∀ w, (zeroValue e).run P w = .ok (ev z) w
  keyed : Keyed P k
  key : ∀ a, ok a → ∃ l, keyOf P k (ek a) = some l
  inj : ∀ a b, ek a = ek b → a = b
def Ents {α β : Type} (ek : α → Value) (ev : β → Value) (es : Array MapEntry) (ks : List (α × β)) : Prop := es.toList.map (fun x => (x.key, x.val)) = ks.map fun p => (ek p.1, ev p.2)
section
variable {α β : Type} {ek : α → Value} {ev : β → Value} {ok : α → Prop}
theorem Ents.size {es : Array MapEntry} {ks : List (α × β)} (h : Ents ek ev es ks) : es.size = ks.length := by
  have := congrArg List.length h
  simpa using this
theorem Ents.at {es : Array MapEntry} {ks : List (α × β)} (h : Ents ek ev es ks) {i : Nat} {x : MapEntry} (hx : es.toList[i]? = some x) : ∃ p, ks[i]? = some p ∧ x.key = ek p.1 ∧ x.val = ev p.2 := by
  have e := congrArg (fun l => l[i]?) h
  simp only [List.getElem?_map, hx, Option.map_some] at e
  obtain ⟨p, hp, e⟩ := Option.map_eq_some_iff.1 e.symm
  simp only [Prod.mk.injEq] at e
  exact ⟨p, hp, e.1.symm, e.2.symm⟩
theorem Ents.mem {es : Array MapEntry} {ks : List (α × β)} (h : Ents ek ev es ks) {x : MapEntry} (hx : x ∈ es.toList) : ∃ p ∈ ks, x.key = ek p.1 ∧ x.val = ev p.2 := by
  obtain ⟨i, hi⟩ := List.mem_iff_getElem?.1 hx
  obtain ⟨p, h1, h2⟩ := h.at hi
  exact ⟨p, List.mem_of_getElem? h1, h2⟩
theorem Ents.mem' {es : Array MapEntry} {ks : List (α × β)} (h : Ents ek ev es ks) {p : α × β} (hp : p ∈ ks) : ∃ x ∈ es.toList, x.key = ek p.1 ∧ x.val = ev p.2 := by
  obtain ⟨i, hi⟩ := List.mem_iff_getElem?.1 hp
  have e := congrArg (fun l => l[i]?) h
  simp only [List.getElem?_map, hi, Option.map_some] at e
  obtain ⟨x, hx, e⟩ := Option.map_eq_some_iff.1 e
  simp only [Prod.mk.injEq] at e
  exact ⟨x, List.mem_of_getElem? hx, e.1, e.2⟩
/-- what a map reads as -/
def RdM (ek : α → Value) (ev : β → Value) (ok : α → Prop) (w : World) (v : Value) (ks : List (α × β)) : Prop :=
  (v = .map none ∧ ks = []) ∨ ∃ b es clock, v = .map (some b) ∧ w.heap[b]? = some (.map es clock) ∧ Ents ek ev es ks ∧ (ks.map Prod.fst).Nodup ∧ ∀ p ∈ ks, ok p.1
def RM (ek : α → Value) (ev : β → Value) (ok : α → Prop) (w : World) (S : FS) (v : Value) (ks : List (α × β)) : Prop := ∀ w' S', Mod w S w' S' → RdM ek ev ok w' v ks
def Stamped (es : Array MapEntry) (clock : Nat) : Prop := (es.toList.map (·.born)).Nodup ∧ ∀ x ∈ es.toList, x.born < clock
def mapHP (ek : α → Value) (ev : β → Value) (ok : α → Prop) (v : Value) (ks : List (α × β)) : HP where
  sat S w := (ks.map Prod.fst).Nodup ∧ (∀ p ∈ ks, ok p.1) ∧ ∃ b es clock, v = .map (some b) ∧ S b ∧ w.heap[b]? = some (.map es clock) ∧ Ents ek ev es ks ∧ Stamped es clock
  mono h h' := ⟨h'.1, h'.2.1, h'.2.2.imp fun b ⟨es, c, h1, h2, h3⟩ => ⟨es, c, h1, h _ h2, h3⟩⟩
  move h h' := ⟨h'.1, h'.2.1, h'.2.2.imp fun b ⟨es, c, h1, h2, h3, h4⟩ => ⟨es, c, h1, h2, (h _ h2 (Array.getElem?_eq_some_iff.1 h3).1).trans h3, h4⟩⟩
  bound h' := ⟨h'.1, h'.2.1, h'.2.2.imp fun b ⟨es, c, h1, h2, h3, h4⟩ => ⟨es, c, h1, ⟨h2, (Array.getElem?_eq_some_iff.1 h3).1⟩, h3, h4⟩⟩
theorem mapHP_rd {v : Value} {ks : List (α × β)} {S : FS} {w : World} (h : (mapHP ek ev ok v ks).sat S w) : RdM ek ev ok w v ks := by
  obtain ⟨h1, h2, b, es, c, h3, h4, h5, h6, _⟩ := h
  exact .inr ⟨b, es, c, h3, h5, h6, h1, h2⟩
end
section
variable {P : Program} {w0 : World} {S0 : FS} {n : Nat} {F : List (Nat × Value)} {L : List HP} {o : Oper} {rest : List Oper} {ops : Array Oper} {Q : Exit → Act → World → Prop} {d : Nat} {v : Value} {α β : Type} {ek : α → Value} {ev : β → Value} {ok : α → Prop} {z : β}
theorem RM.of_rd {v : Value} {ks : List (α × β)} (h : RdM ek ev ok w0 v ks) : RM ek ev ok w0 (fun _ => False) v ks := by
  intro w S hm
  rcases h with h | ⟨b, es, c, h1, h2, h3⟩
  · exact .inl h
  · exact .inr ⟨b, es, c, h1, by rw [hm.keep b (Array.getElem?_eq_some_iff.1 h2).1 (fun h => h)]; exact h2, h3⟩
theorem find_ents {w : World} {k : TypeId} {es : Array MapEntry} {ks : List (α × β)} {a : α} (K : Keyed P k) (hk : ∀ a, ok a → ∃ l, keyOf P k (ek a) = some l) (hi : ∀ a b, ek a = ek b → a = b) (he : Ents ek ev es ks) (hok : ∀ p ∈ ks, ok p.1) (ha : ok a) :
    ((Instr.findKey k (ek a) es.toList).run P w = .ok none w ∧ a ∉ ks.map Prod.fst) ∨ ∃ (j : Nat) (x : MapEntry) (b : β), (Instr.findKey k (ek a) es.toList).run P w = .ok (some (j, x.val)) w ∧ es.toList[j]? = some x ∧ ks[j]? = some (a, b) ∧ x.key = ek a ∧ x.val = ev b := by
  obtain ⟨l, hl⟩ := hk a ha
  rcases K.find w hl es.toList (fun x hx => by
    obtain ⟨p, hp, e1, _⟩ := he.mem hx
    rw [e1]; exact hk p.1 (hok p hp)) with ⟨h1, h2⟩ | ⟨j, x, h1, h2, h3⟩
  · refine .inl ⟨h1, fun hm => ?_⟩
    obtain ⟨p, hp, e⟩ := List.mem_map.1 hm
    obtain ⟨x, hx, e1, _⟩ := he.mem' hp
    exact h2 x hx (by rw [e1, e])
  · obtain ⟨p, hp, e1, e2⟩ := he.at h2
    have : p.1 = a := hi _ _ (by rw [← e1, h3])
    refine .inr ⟨j, x, p.2, h1, h2, ?_, h3, e2⟩
    rw [hp, ← this]
variable [DecidableEq α]
theorem run_look {w : World} {t k : TypeId} {v : Value} {ks : List (α × β)} {a : α} (T : MapTy P t α β ek ev ok z k) (hr : RdM ek ev ok w v ks) (ha : ok a) (c : Bool) : (Instr.lookup t v (ek a) c).run P w = .ok (if c then .tuple #[ev ((getK ks a).getD z), .bool (getK ks a).isSome] else ev ((getK ks a).getD z)) w := by
  obtain ⟨e, ht, hz⟩ := T.e
  obtain ⟨l, hl⟩ := T.key a ha
  rcases hr with ⟨rfl, rfl⟩ | ⟨b, es, clock, rfl, hb, he, hn, hok⟩
  · have h1 : (Instr.findKey k (ek a) []).run P w = .ok none w := by
      rcases T.keyed.find w hl [] (by simp) with ⟨h1, _⟩ | ⟨j, x, _, h2, _⟩
      · exact h1
      · simp at h2
    simp [Instr.lookup, run_underlying ht, T.keyed.check w _ hl, h1, hz, Result.andThen, getK]
  · rcases find_ents (w := w) T.keyed T.key T.inj he hok ha with ⟨h1, h2⟩ | ⟨j, x, y, h1, h2, h3, h4, h5⟩
    · simp [Instr.lookup, run_underlying ht, MapKept.run_getObj_map hb, T.keyed.check w _ hl, h1, hz, Result.andThen, getK_none h2]
    · have := getK_some hn (List.mem_of_getElem? h3)
      simp [Instr.lookup, run_underlying ht, MapKept.run_getObj_map hb, T.keyed.check w _ hl, h1, Result.andThen, this, h5]
theorem q_look_of {x y : Operand} {t k : TypeId} {a : α} {s ka : Value} {ks : List (α × β)} [T : MapTy P t α β ek ev ok z k] (hrd : ∀ w, St w0 S0 L w → RdM ek ev ok w s ks) (ho : o.op = .lookup t x y false) (hx : Sl.ev F x = some s) (hy : Sl.ev F y = some ka) (hka : ka = ek a) (ha : ok a) : R1 P w0 S0 n F L o (ev ((getK ks a).getD z)) :=
  q_of_run fun a' hf w hs => by
    have := run_look (P := P) (w := w) T (hrd w hs) ha false
    rw [← hka] at this
    simp [execOp, ho, hf.eval hx, hf.eval hy, this]
theorem q_look {x y : Operand} {t k : TypeId} {a : α} {b : β} {s ka : Value} {ks : List (α × β)} [T : MapTy P t α β ek ev ok z k] (ho : o.op = .lookup t x y false) (hx : Sl.ev F x = some s) (hy : Sl.ev F y = some ka) (hL : mapHP ek ev ok s ks ∈ L) (hka : ka = ek a) (hv : (getK ks a).getD z = b) (ha : ok a) : R1 P w0 S0 n F L o (ev b) :=
  hv ▸ q_look_of (fun w hs => (hs.mem hL).elim fun _ h => mapHP_rd h) ho hx hy hka ha
theorem l_makeMap {R : Act → World → Prop} {t k : TypeId} [T : MapTy P t α β ek ev ok z k] (ho : o.op = .makeMap t none) (hd : o.dst = some d) (hn : Nat.blt d n = true)
    (h : ∀ b, Reach w0 S0 n ((d, .map (some b)) :: F) (mapHP ek ev ok (.map (some b)) [] :: L) R) : Reach w0 S0 n F L (fun a w => o.wp P a w R Q) := by
  refine l_loud fun a hf w hs => ⟨_, _, by simp only [execOp, ho, Option.map_none, run_makeMap, Sem.run_bind, Result.andThen_ok, Sem.run_pure]; rfl, .inl ⟨_, rfl, _, _, by rw [hd]; exact hf.put hn, ?_, h w.heap.size⟩⟩
  refine hs.push (M := [_]) (mod_alloc w _) ⟨fun k => w.heap.size ≤ k, fun _ => False, fun k hk => hk, fun k hk => hk.elim, fun k _ hk => hk, ⟨by simp, by simp, w.heap.size, #[], 0, rfl, Nat.le_refl _, by simpa using heap_alloc_new w (.map #[] 0), rfl, by simp [Stamped]⟩, trivial⟩
theorem mod_setBlock {w : World} {S : FS} {b : Nat} {x : Obj} (hb : S b) : Mod w S (setBlock w b x) S :=
  ⟨rfl, rfl, rfl, Nat.le_refl _, by simp [setBlock], fun k hk hn => by
    have hne : b ≠ k := fun e => hn (e ▸ hb)
    simp [setBlock, Array.getElem?_setIfInBounds_ne hne], fun k h => .inl h⟩
theorem setBlock_at {w : World} {b : Nat} {x y : Obj} (h : w.heap[b]? = some y) : (setBlock w b x).heap[b]? = some x := by
  have hlt := (Array.getElem?_eq_some_iff.1 h).1
  simp [setBlock, hlt]
theorem Ents.put {es : Array MapEntry} {ks : List (α × β)} {j : Nat} {a : α} {b b0 : β} (he : Ents ek ev es ks) (hn : (ks.map Prod.fst).Nodup) (hj : ks[j]? = some (a, b0)) (hx : ∀ x, es.toList[j]? = some x → x.key = ek a) : Ents ek ev (es.modify j fun e => { e with key := ek a, val := ev b }) (putK ks a b) := by
  have hmem : a ∈ ks.map Prod.fst := List.mem_map.2 ⟨(a, b0), List.mem_of_getElem? hj, rfl⟩
  rw [putK, if_pos hmem]
  apply List.ext_getElem?
  intro i
  have e := congrArg (fun l => l[i]?) he
  simp only [List.getElem?_map, Array.toList_modify, List.getElem?_modify] at e ⊢
  cases hk : ks[i]? with
  | none =>
    rw [hk, Option.map_none, Option.map_eq_none_iff] at e
    rw [e]
    simp
  | some p =>
    rw [hk, Option.map_some] at e
    obtain ⟨x, hx1, e⟩ := Option.map_eq_some_iff.1 e
    rw [hx1]
    by_cases hij : j = i
    · subst hij
      rw [hj] at hk
      obtain rfl : (a, b0) = p := by simpa using hk
      simp
    · have hne : p.1 ≠ a := fun e1 => by
        have h1 : (ks.map Prod.fst)[i]? = some a := by simp [hk, e1]
        have h2 : (ks.map Prod.fst)[j]? = some a := by simp [hj]
        obtain ⟨l1, g1⟩ := List.getElem?_eq_some_iff.1 h1
        obtain ⟨l2, g2⟩ := List.getElem?_eq_some_iff.1 h2
        rcases Nat.lt_or_gt_of_ne hij with h | h
        · exact List.pairwise_iff_getElem.1 hn j i l2 l1 h (by rw [g1, g2])
        · exact List.pairwise_iff_getElem.1 hn i j l1 l2 h (by rw [g1, g2])
      simp [hij, hne, e]
theorem run_mapup {w : World} {t k : TypeId} {v : Value} {ks : List (α × β)} {a : α} {b : β} {S : FS} (T : MapTy P t α β ek ev ok z k) (h : (mapHP ek ev ok v ks).sat S w) (ha : ok a) :
    ∃ w', (Instr.mapUpdate t v (ek a) (ev b)).run P w = .ok () w' ∧ Mod w S w' S ∧ (mapHP ek ev ok v (putK ks a b)).sat S w' := by
  obtain ⟨e, ht, hz⟩ := T.e
  obtain ⟨l, hl⟩ := T.key a ha
  obtain ⟨hn, hok, g, es, clock, rfl, hS, hb, he, hst⟩ := h
  rcases find_ents (w := w) T.keyed T.key T.inj he hok ha with ⟨h1, h2⟩ | ⟨j, x, y, h1, h2, h3, h4, h5⟩
  · refine ⟨setBlock w g (.map (es.push ⟨ek a, ev b, clock⟩) (clock + 1)), ?_, mod_setBlock hS, putK_nodup hn, putK_ok hok ha, g, _, _, rfl, hS, setBlock_at hb, ?_, ?_⟩
    · simp [Instr.mapUpdate, run_underlying ht, MapKept.run_getObj_map hb, T.keyed.check w false hl, h1, MapKept.run_setObj_map _ hb, Result.andThen, setBlock]
    · rw [putK_new h2]
      simp only [Ents, Array.toList_push, List.map_append, List.map_cons, List.map_nil]
      rw [he]
    · refine ⟨?_, fun x hx => ?_⟩
      · rw [Array.toList_push, List.map_append]
        refine List.nodup_append.2 ⟨hst.1, by simp, fun p hp q hq e => ?_⟩
        obtain rfl : q = clock := by simpa using hq
        obtain ⟨x, hx, rfl⟩ := List.mem_map.1 hp
        have := hst.2 x hx
        omega
      · rw [Array.toList_push, List.mem_append] at hx
        rcases hx with hx | hx
        · have := hst.2 x hx; omega
        · obtain rfl := List.mem_singleton.1 hx
          exact Nat.lt_succ_self _
  · have hjs : es[j]? = some x := by simpa using h2
    refine ⟨setBlock w g (.map (es.modify j fun e => { e with key := ek a, val := ev b }) clock), ?_, mod_setBlock hS, putK_nodup hn, putK_ok hok ha, g, _, _, rfl, hS, setBlock_at hb, ?_, ?_⟩
    · simp [Instr.mapUpdate, run_underlying ht, MapKept.run_getObj_map hb, T.keyed.check w false hl, h1, hjs, h4, T.keyed.stays w hl, MapKept.run_setObj_map _ hb, Result.andThen, setBlock]
    · exact he.put hn h3 fun x' hx' => by rw [h2] at hx'; obtain rfl : x = x' := (by simpa using hx'); exact h4
    · have hborn : (es.modify j fun e => { e with key := ek a, val := ev b }).toList.map (·.born) = es.toList.map (·.born) := by
        apply List.ext_getElem?
        intro i
        simp only [List.getElem?_map, Array.toList_modify, List.getElem?_modify]
        cases es.toList[i]? with
        | none => rfl
        | some x => by_cases hij : j = i <;> simp [hij]
      refine ⟨by rw [hborn]; exact hst.1, fun x hx => ?_⟩
      have : x.born ∈ es.toList.map (·.born) := by rw [← hborn]; exact List.mem_map.2 ⟨x, hx, rfl⟩
      obtain ⟨y, hy, e⟩ := List.mem_map.1 this
      rw [← e]; exact hst.2 y hy
theorem l_mapup {R : Act → World → Prop} {m x y : Operand} {t k : TypeId} {i : Nat} {s ka va : Value} {a : α} {b : β} {ks : List (α × β)} [T : MapTy P t α β ek ev ok z k] (ho : o.op = .mapUpdate t m x y) (hd : o.dst = none) (hm : Sl.ev F m = some s) (hx : Sl.ev F x = some ka) (hy : Sl.ev F y = some va) (hL : L[i]? = some (mapHP ek ev ok s ks)) (hka : ka = ek a) (hva : va = ev b) (ha : ok a)
    (h : Reach w0 S0 n F (L.set i (mapHP ek ev ok s (putK ks a b))) R) : Reach w0 S0 n F L (fun a w => o.wp P a w R Q) := by
  subst hka hva
  refine l_loud fun a' hf w hs => ?_
  obtain ⟨S, hsat⟩ := hs.mem (List.mem_of_getElem? hL)
  obtain ⟨w', hr, hmd, hsat'⟩ := run_mapup (P := P) (b := b) T hsat ha
  refine ⟨_, _, by simp only [execOp, ho, hf.eval hm, hf.eval hx, hf.eval hy, Sem.run_bind, hr, Result.andThen_ok, Sem.run_pure]; rfl, .inr ⟨rfl, _, hd, ?_, h⟩⟩
  refine hs.step hL fun S2 hsat2 => ?_
  obtain ⟨w2, hr2, hmd2, hsat2'⟩ := run_mapup (P := P) (b := b) T hsat2 ha
  rw [hr] at hr2
  obtain rfl : w' = w2 := by simpa using hr2
  exact ⟨S2, hmd2, hsat2'⟩
section
variable {ty : TypeId} {ps : String} {af : Array Edge}
theorem o_makeMap {t k : TypeId} [T : MapTy P t α β ek ev ok z k] (hn : Nat.blt d n = true) (h : ∀ b, Reach w0 S0 n ((d, .map (some b)) :: F) (mapHP ek ev ok (.map (some b)) [] :: L) (wpList P ops Q rest)) : Reach w0 S0 n F L (wpList P ops Q (⟨some d, .makeMap t none, ty, ps, af, none⟩ :: rest)) := s_of_l rfl fun R hR => l_makeMap (z := z) rfl rfl hn fun b => (h b).imp hR
theorem o_mapup {m x y : Operand} {t k : TypeId} {i : Nat} {s ka va : Value} {ks : List (α × β)} [T : MapTy P t α β ek ev ok z k] (a : α) (b : β) (hm : Sl.ev F m = some s) (hx : Sl.ev F x = some ka) (hy : Sl.ev F y = some va) (hL : L[i]? = some (mapHP ek ev ok s ks)) (hka : ka = ek a) (hva : va = ev b) (ha : ok a)
    (h : Reach w0 S0 n F (L.set i (mapHP ek ev ok s (putK ks a b))) (wpList P ops Q rest)) : Reach w0 S0 n F L (wpList P ops Q (⟨none, .mapUpdate t m x y, ty, ps, af, none⟩ :: rest)) := s_of_l rfl fun R hR => l_mapup (z := z) rfl rfl hm hx hy hL hka hva ha (h.imp hR)
end
end
abbrev okI (i : Int) : Prop := -9223372036854775808 ≤ i ∧ i ≤ 9223372036854775807
abbrev ekI (i : Int) : Value := .int .i64 i
theorem wf_i64 {i : Int} (h : okI i) : (Lit.int .i64 i).wf = true := by
  obtain ⟨h1, h2⟩ := h
  simp only [Lit.wf, IntKind.min, IntKind.max, IntKind.signed, IntKind.bits]
  simp
  omega
def setN (l : List Nat) : List (Int × Bool) := l.map fun u : Nat => ((u : Int), true)
section
variable {P : Program} {w0 : World} {S0 : FS} {n : Nat} {F : List (Nat × Value)} {L : List HP}
/-- what sets are read as -/
structure RMs (w : World) (S : FS) (v : Value) (hs : List Value) (N : Nat) (A : Nat → Option (List Nat)) : Prop where
  shp : Shp v N
  len : hs.length = N
  ro : RO w S v hs
  none : ∀ i : Nat, i < N → A i = none → hs[i]? = some (.map none)
  some : ∀ i : Nat, ∀ l, i < N → A i = some l → ∃ b, hs[i]? = some (.map (some b)) ∧ RM ekI Value.bool okI w S (.map (some b)) (setN l)
end
theorem kids_put {α : Type} {f : Value → α → HP} {hs : List Value} {ls : List α} {k : Nat} {h : Value} {l : α} : (kids f hs ls).set k (f h l) = kids f (hs.set k h) (ls.set k l) := by
  rw [← kids_set (x := empHP), List.set_set]
end Go.Sl
end
section
set_option linter.unusedVariables false
namespace Go.Sl
open Go Go.RowKit
section
variable {P : Program} {w0 : World} {S0 : FS} {n : Nat} {F : List (Nat × Value)} {L Lk : List HP} {rest : List Oper} {ops : Array Oper} {Q : Exit → Act → World → Prop} {Qa : Act → Prop} {d i : Nat} {v : Value} {ty : TypeId} {ps : String} {af : Array Edge} {plan : List PI}
theorem s_look {x y : Operand} {ka : Value} {t k : TypeId} {α β : Type} {ek : α → Value} {ev0 : β → Value} {ok : α → Prop} {z : β} {s : Value} {ks : List (α × β)} {a : α} {b : β} [DecidableEq α] [T : MapTy P t α β ek ev0 ok z k] (hn : Nat.blt d n = true) (hx : ev F x = some s) (hy : ev F y = some ka) (hL : mapHP ek ev0 ok s ks ∈ L) (hka : ka = ek a) (hv : (getK ks a).getD z = b) (ha : ok a) (h : Reach w0 S0 n ((d, ev0 b) :: F) L (wpList P ops Q rest)) : Reach w0 S0 n F L (wpList P ops Q (⟨some d, .lookup t x y false, ty, ps, af, none⟩ :: rest)) := s_q rfl rfl hn (q_look rfl hx hy hL hka hv ha).q h
theorem t_look {x y : Operand} {ka : Value} {t k : TypeId} {α β : Type} {ek : α → Value} {ev0 : β → Value} {ok : α → Prop} {z : β} {s : Value} {ks : List (α × β)} {a : α} {b : β} [DecidableEq α] [T : MapTy P t α β ek ev0 ok z k] (hn : Nat.blt d n = true) (hx : ev F x = some s) (hy : ev F y = some ka) (hL : mapHP ek ev0 ok s ks ∈ Lk) (hka : ka = ek a) (hv : (getK ks a).getD z = b) (ha : ok a) (hkeep : ∀ w, St w0 S0 L w → St w0 S0 Lk w) (h : RP P w0 S0 n ops Q Lk plan ((d, ev0 b) :: F) L) : RPo P w0 S0 n ops Q Lk ⟨some d, .lookup t x y false, ty, ps, af, none⟩ i true plan F L := fun ho => p_q ho rfl rfl hn hkeep (q_look rfl hx hy hL hka hv ha) h
end
end Go.Sl
end
section
namespace Go.Sl
open Go Go.Proofs
instance : BoTy Tryz.prog 4 := ⟨Tryz.underlying4⟩
end Go.Sl
end
section
namespace Go.Sl
open Go.RowKit
section
variable {P : Program} {w0 : World} {S0 : FS} {n : Nat} {F : List (Nat × Value)} {L Lk : List HP} {rest : List Oper} {ops : Array Oper} {Q : Exit → Act → World → Prop} {d i : Nat} {ty : TypeId} {ps : String} {af : Array Edge} {plan : List PI}
theorem mod_trans0 {w w1 w2 : World} {S1 S2 : FS} (h : Mod w No w1 S1) (h2 : Mod w1 No w2 S2) : Mod w No w2 (fun k => S1 k ∨ S2 k) :=
  h.trans ⟨h2.os, h2.tape, h2.output, h2.drawn, h2.size, fun k hk _ => h2.keep k hk (fun h => h), fun k hk => hk.imp id (fun h => (h2.new k h).elim (fun h => h.elim) id)⟩
theorem run_mkrow0 {t e : TypeId} {z : Value} {sz bytes : Nat} [T : SlTy P t e z sz bytes] (w : World) :
    (Instr.buildSlice t 0 #[]).run P w = .ok (.slice (some ⟨w.heap.size, 0, none⟩) 0 0) (w.alloc (.cells #[] e (0, 0))) := by
  simp only [Instr.buildSlice, Sem.run_bind, Sem.run_pure, run_under T.u, T.size, Result.andThen_ok]
  simp [Instr.fill, run_newRow]
  exact congrArg (fun c => w.alloc (Obj.cells c e (0, 0))) (Array.toList_inj.1 (by simp))
theorem o_mk0 {t e : TypeId} {z : Value} {sz bytes : Nat} [T : SlTy P t e z sz bytes] (hn : Nat.blt d n = true)
    (h : ∀ v, Shp v 0 → Reach w0 S0 n ((d, v) :: F) (rowHP v e sz 0 [] :: L) (wpList P ops Q rest)) : Reach w0 S0 n F L (wpList P ops Q (⟨some d, .buildSlice t 0 #[], ty, ps, af, none⟩ :: rest)) :=
  s_of_l rfl fun R hR => l_mkrow rfl rfl hn (fun a _ w => by simpa using run_mkrow0 (T := T) w) (by simp) (by simp only [maxLen]; omega) fun v hv => (h v hv).imp hR
end
end Go.Sl
end
section
namespace Go.Sl
open Go.RowKit
/-- an integer type -/
class InTy (P : Program) (t : TypeId) (k : outParam IntKind) : Prop where
  u : P.underlying t = some (.int k)
section
variable {P : Program} {w0 : World} {S0 : FS} {n : Nat} {F : List (Nat × Value)} {L Lk : List HP} {rest : List Oper} {ops : Array Oper} {Q : Exit → Act → World → Prop} {d i : Nat} {v : Value} {plan : List PI} {ty : TypeId} {ps : String} {af : Array Edge}
variable {o : Oper} {x y : Operand} {t t' : TypeId} {a b r : Int} {k k' : IntKind}
end
end Go.Sl
end
section
set_option linter.unusedVariables false
set_option linter.unusedSimpArgs false
namespace Go.Sl
open Go Go.RowKit
/-- a block that is no cells -/
def objHP (b : Nat) (o : Obj) : HP where
  sat S w := S b ∧ w.heap[b]? = some o
  mono h h' := ⟨h _ h'.1, h'.2⟩
  move h h' := ⟨h'.1, (h _ h'.1 (Array.getElem?_eq_some_iff.1 h'.2).1).trans h'.2⟩
  bound h := ⟨⟨h.1, (Array.getElem?_eq_some_iff.1 h.2).1⟩, h.2⟩
/-- What is asked of a post: no frame has outgrown the stack. -/
class NL (Q : Exit → Act → World → Prop) : Prop where
  no : ¬ LetsOut Q
instance {K : Act → World → Prop} {Q : Exit → Act → World → Prop} [T : NL Q] : NL (Exit.then K Q) := ⟨fun ⟨a, w, h⟩ => T.no ⟨a, w, h⟩⟩
instance {id : Nat} {Q : Exit → Act → World → Prop} [T : NL Q] : NL (Exit.inBlock id Q) := ⟨fun ⟨a, w, h⟩ => T.no ⟨a, w, h⟩⟩
instance {P : Program} {fn : Func} {w : World} {S : FS} {G : Value → List HP → Prop} : NL (bodyPost P fn (Post w S G)) := ⟨fun ⟨_, _, v, L', _, h, _⟩ => by simp at h⟩
/-- the fence that lets all in, in a round's frame or not -/
abbrev RF (ro : Option Nat) : Fence := { Fence.wide with round := ro }
instance {ro : Option Nat} {m : Nat} {P : Program} {fn : Func} {w : World} {S : FS} {G : Value → List HP → Prop} : NL (bodyPostM (RF ro) m P fn (Post w S G)) := ⟨fun ⟨_, _, v, L', _, h, _⟩ => by simp at h⟩
instance {l : Nat} {P : Program} {R : Ending → World → Prop} : NL (roundPost P l R) := ⟨fun ⟨_, _, h⟩ => h⟩
instance : NL (fun _ _ _ => False) := ⟨fun ⟨_, _, h⟩ => h⟩
def noDef (o : Oper) : Bool := match o.op with
  | .defer _ => false
  | _ => true
section
variable {P : Program} {w0 : World} {S0 : FS} {n m : Nat} {F : List (Nat × Value)} {L : List HP} {o : Oper} {rest : List Oper} {ops : Array Oper} {Q Q' : Exit → Act → World → Prop} {d : Nat} {v : Value} {ro : Option Nat}
theorem rows_in {row : String} {args : Array Value} {w : World} {R : Value → World → Prop} (h : Rows P row args w R) : RowsIn (RF ro) m P row args w R :=
  fun c cs _ => let ⟨v, w', r, s⟩ := h c cs; ⟨v, w', r, (stepsIn_wide (P := P)).2 s⟩
theorem calls_in {f : FuncId} {args : Array Value} {w : World} {R : Ending → World → Prop} (h : Calls P f args w R) : CallsIn (RF ro) m P f args w R :=
  (callsIn_wide (n := m)).2 h
theorem calls_out {f : FuncId} {args : Array Value} {w : World} {R : Ending → World → Prop} (h : CallsIn (RF ro) m P f args w R) : Calls P f args w R :=
  (callsIn_wide (n := m)).1 h
theorem up_in {next next' : Act → World → Prop} {a : Act} {w : World} (ho : noDef o = true) (hQ : ¬ LetsOut Q) (hp : ∀ c a w, Q (.panic c) a w → Q' (.panic c) a w) (hn : ∀ a w, next a w → next' a w) (h : o.wp P a w next Q) : o.wpIn (RF ro) m P a w next' Q' := by
  refine ⟨fun _ _ => trivial, ?_⟩
  rw [Oper.semAt_eq ro _ o (fun c e => by rw [noDef, e] at ho; simp at ho)]
  unfold Oper.wp at h
  revert h
  generalize (execOp a.eval o).run P w = r
  intro h
  have key : ∀ f (args : Array Value) w', Calls P f args w' (fun
      | .returned v, w'' => next (a.put o.dst v) w''
      | .panicked chain, w'' => Q (.panic chain) a w''
      | .outgrown, _ => LetsOut Q) → CallsIn (RF ro) (m - 1) P f args w' (fun
      | .returned v, w'' => next' (a.put o.dst v) w''
      | .panicked chain, w'' => Q' (.panic chain) a w''
      | .outgrown, _ => LetsOut Q') := fun f args w' hc => calls_in (hc.mono fun e w'' he => by
    cases e with
    | returned v => exact hn _ _ he
    | panicked c => exact hp _ _ _ he
    | outgrown => exact (hQ he).elim)
  cases r with
  | ok nx w' =>
    cases nx with
    | value v => exact hn _ _ h
    | skip => exact hn _ _ h
    | defer d => exact hn _ _ h
    | enter f args => exact ⟨fun h => by simp [Fence.wide] at h, key f args w' h⟩
    | row row args => exact ⟨fun h => by simp [Fence.wide] at h, (rows_in h : RowsIn (RF ro) (m - 1) P row args w' _).mono fun v w'' h => hn _ _ h⟩
    | _ => exact h.elim
  | halt e w' =>
    cases e with
    | panic v => exact hp _ _ _ h
    | _ => exact h.elim
theorem list_in [T : NL Q] (rest2 : List Oper) : ∀ (pre : List Oper), pre.all noDef = true → ∀ a w, wpList P ops (Exit.then (wpListIn (RF ro) m P ops Q rest2) Q) pre a w → wpListIn (RF ro) m P ops Q (pre ++ rest2) a w
  | [], _, a, w, h => h
  | o :: pre, hd, a, w, h => by
    rw [List.all_cons, Bool.and_eq_true] at hd
    have ih := list_in rest2 pre hd.2
    simp only [List.cons_append, wpListIn]
    simp only [wpList] at h
    split
    · rename_i hw
      rw [if_pos hw] at h
      rcases h with h | ⟨_, h⟩
      · exact up_in hd.1 (fun ⟨a, w, h⟩ => T.no ⟨a, w, h⟩) (fun c a w h => h) ih h
      · exact (T.no (by obtain ⟨a, w, h⟩ := h; exact ⟨a, w, h⟩)).elim
    · rename_i hw
      rw [if_neg hw] at h
      exact ⟨fun _ _ => trivial, ih _ _ h⟩
theorem list_in0 [T : NL Q] {rest : List Oper} (hd : rest.all noDef = true) {a : Act} {w : World} (h : wpList P ops Q rest a w) : wpListIn (RF ro) m P ops Q rest a w := by
  have := list_in (P := P) (ops := ops) (Q := Q) (ro := ro) (m := m) [] rest hd a w
  rw [List.append_nil] at this
  refine this ?_
  have e : Exit.then (wpListIn (RF ro) m P ops Q []) Q = Q := by funext e a w; cases e <;> rfl
  rw [e]; exact h
theorem x_block {id : Nat} {c : Code} (h : Reach w0 S0 n F L (c.wpIn (RF ro) m P (Exit.inBlock id Q))) : Reach w0 S0 n F L ((Code.block id c).wpIn (RF ro) m P Q) := fun a w hf hs => wpIn_block (h a w hf hs)
theorem x_region {id : Nat} {l : List Oper} [NL Q] (hd : l.all noDef = true) (h : Reach w0 S0 n F L (wpList P l.toArray Q l)) : Reach w0 S0 n F L ((Code.region id l.toArray false).wpIn (RF ro) m P Q) := fun a w hf hs => wpIn_region_lit (list_in0 hd (h a w hf hs))
theorem c_region_y {id : Nat} {l : List Oper} (pre rest2 : List Oper) [NL Q] (hl : l = pre ++ rest2) (hd : pre.all noDef = true) (h : Reach w0 S0 n F L (wpList P l.toArray (Exit.then (wpListIn (RF none) 0 P l.toArray Q rest2) Q) pre)) : Reach w0 S0 n F L ((Code.region id l.toArray false).wp P Q) :=
  fun a w hf hs => (wpIn_wide (n := 0)).1 (wpIn_region_lit (F := RF none) (by
    have := list_in (P := P) (ops := l.toArray) (Q := Q) (ro := none) (m := 0) rest2 pre hd a w (h a w hf hs)
    rwa [← hl] at this))
theorem y_rest [NL Q] (hd : rest.all noDef = true) (h : Reach w0 S0 n F L (wpList P ops Q rest)) : Reach w0 S0 n F L (wpListIn (RF ro) m P ops Q rest) := fun a w hf hs => list_in0 hd (h a w hf hs)
/-- what a call of yield comes to -/
def YieldOK (P : Program) (l : Nat) (vs : List Value) (W : World) (R : World → Prop) : Prop :=
  ∃ f tmps assign body, (Instr.yield l vs.toArray).run P W = .ok (.round l f tmps assign body) W ∧ ∀ m, RoundIn (RF none) m P l f tmps assign body W fun e W' => e = .returned (.bool true) ∧ R W'
/-- What an iterator does: it hands on N lists of values, one behind the other; a round turns a list of entries of the kind LL i into one of the kind LL (i + 1). -/
def IterOK (P : Program) (it : FuncId) (caps : List Value) (N : Nat) (vs : Nat → List Value) (w : World) (S : FS) : Prop :=
  ∀ (l : Nat) (LL : Nat → List HP → Prop),
    (∀ i M W' S', i < N → LL i M → Mod w S W' S' → sats M S' W' → YieldOK P l (vs i) W' fun W2 => ∃ M' S2, LL (i + 1) M' ∧ Mod W' S' W2 S2 ∧ sats M' S2 W2) →
    ∀ M, LL 0 M → sats M S w → Calls P it (Value.func (.yield l) #[] #[] :: caps).toArray w (Post w S fun _ L' => LL N L')
/-- the call of yield, in the iterator -/
theorem y_yield {c : Operand} {xs : Array Operand} {ts : Array TypeId} {ty : TypeId} {ps : String} {af : Array Edge} {l : Nat} {vs : List Value} {K : List HP → Prop} (hc : ev F c = some (.func (.yield l) #[] #[])) (hn : Nat.blt d n = true) (hxs : xs.toList.map (ev F) = vs.map some)
    (hy : ∀ W S, Mod w0 S0 W S → sats L S W → YieldOK P l vs W fun W2 => ∃ M' S2, K M' ∧ Mod W S W2 S2 ∧ sats M' S2 W2)
    (h : ∀ M', K M' → Reach w0 S0 n ((d, .bool true) :: F) M' (wpListIn (RF ro) m P ops Q rest)) : Reach w0 S0 n F L (wpListIn (RF ro) m P ops Q (⟨some d, .call { callee := .value c, args := xs, argTypes := ts }, ty, ps, af, none⟩ :: rest)) := by
  intro a w hf hs
  refine wpListIn_plain rfl fun K' hK' => ?_
  obtain ⟨S, hm, hl⟩ := hs
  obtain ⟨f, tmps, assign, body, hyr, hR⟩ := hy w S hm hl
  have hargs : xs.map a.eval = vs.toArray := by
    have : ∀ (l : List Operand) (us : List Value), l.map (ev F) = us.map some → l.map a.eval = us := by
      intro l
      induction l with
      | nil => intro us hu; cases us with | nil => rfl | cons _ _ => simp at hu
      | cons x l ih =>
        intro us hu
        cases us with
        | nil => simp at hu
        | cons u us =>
          simp only [List.map_cons, List.cons.injEq] at hu ⊢
          exact ⟨hf.eval hu.1, ih us hu.2⟩
    obtain ⟨l⟩ := xs
    rw [List.map_toArray, this l vs hxs]
  refine ⟨fun _ _ => trivial, ?_⟩
  rw [Oper.semAt_eq ro _ _ (fun c e => by simp at e)]
  have hr : (execOp a.eval ⟨some d, .call { callee := .value c, args := xs, argTypes := ts }, ty, ps, af, none⟩).run P w = .ok (.round l f tmps assign body) w := by
    have e : a.eval c = .func (.yield l) #[] #[] := hf.eval hc
    simp only [execOp, resolve, hargs, e, Deferred.ofValue, invoke, Sem.run_bind, Sem.run_pure, Result.andThen_ok, Array.append_empty, Array.empty_append, hyr]
  rw [hr, Oper.uponIn_round]
  refine ⟨fun h => by simp [Fence.wide] at h, (hR (m - 1)).mono ?_⟩
  rintro e W' ⟨rfl, M', S2, hk, hm2, hs2⟩
  exact hK' _ _ (h M' hk _ _ (hf.put hn) ⟨S2, hm.trans hm2, hs2⟩)
theorem c_region_k {id : Nat} {l : List Oper} (k : Nat) [NL Q] (hd : (l.take k).all noDef = true) (h : Reach w0 S0 n F L (wpList P l.toArray (Exit.then (wpListIn (RF none) 0 P l.toArray Q (l.drop k)) Q) (l.take k))) : Reach w0 S0 n F L ((Code.region id l.toArray false).wp P Q) :=
  c_region_y (l.take k) (l.drop k) (List.take_append_drop k l).symm hd h
theorem pick_id : ∀ (L : List HP), pick L (List.replicate L.length 0) = some L
  | [] => rfl
  | A :: L => by
    show (match (A :: L)[0]?, pick ((A :: L).eraseIdx 0) (List.replicate L.length 0) with | some A, some M => some (A :: M) | _, _ => none) = _
    rw [List.eraseIdx_zero, List.tail_cons, pick_id L]
    rfl
theorem RO.fwd {w : World} {S Sf : FS} {ys : List Value} (hr : RO w0 S0 v ys) (hm0 : Mod w0 S0 w Sf) (hS : ∀ k, S k → Sf k) : RO w S v ys := fun w' S' hm =>
  hr w' (fun k => Sf k ∨ S' k) (hm0.trans ⟨hm.os, hm.tape, hm.output, hm.drawn, hm.size, fun k hk hn => hm.keep k hk (fun h => hn (hS k h)), fun k hk => hk.elim .inl (fun h => (hm.new k h).imp (hS k) id)⟩)
theorem RB.fwd {w : World} {S Sf : FS} {b : Nat} {t : TypeId} {cs : List Value} (hr : RB w0 S0 b t cs) (hm0 : Mod w0 S0 w Sf) (hS : ∀ k, S k → Sf k) : RB w S b t cs := fun w' S' hm =>
  hr w' (fun k => Sf k ∨ S' k) (hm0.trans ⟨hm.os, hm.tape, hm.output, hm.drawn, hm.size, fun k hk hn => hm.keep k hk (fun h => hn (hS k h)), fun k hk => hk.elim .inl (fun h => (hm.new k h).imp (hS k) id)⟩)
theorem mod_putObj {w : World} {S : FS} {b : Nat} {x : Obj} (hb : S b) : Mod w S (w.putObj b x) S :=
  ⟨rfl, rfl, rfl, Nat.le_refl _, by simp, fun k hk hn => World.putObj_heap_other (fun e => hn (e ▸ hb)), fun k h => .inl h⟩
theorem putObj_at {w : World} {b : Nat} {x y : Obj} (h : w.heap[b]? = some y) : (w.putObj b x).heap[b]? = some x := by
  have hlt := (Array.getElem?_eq_some_iff.1 h).1
  simp [World.putObj, hlt]
theorem St.obj {w : World} {b j : Nat} {x : Obj} (h : St w0 S0 L w) (hj : L[j]? = some (objHP b x)) : w.heap[b]? = some x := by
  obtain ⟨S, hs⟩ := h.mem (List.mem_of_getElem? hj)
  exact hs.2
theorem St.turn {w : World} {b j : Nat} {x : Obj} (y : Obj) (h : St w0 S0 L w) (hj : L[j]? = some (objHP b x)) : St w0 S0 (L.set j (objHP b y)) (w.putObj b y) :=
  h.step hj fun S hs => ⟨S, mod_putObj hs.1, hs.1, putObj_at hs.2⟩
theorem fr_params : ∀ (ps : List Nat) (vs : List Value) {F : List (Nat × Value)} {t : Array Value}, ps.all (fun p => Nat.blt p n) = true → Fr F n { tmps := t, defers := [] } → Fr ((ps.zip vs).reverse ++ F) n { tmps := (ps.zip vs).foldl (fun t (p, v) => t.setIfInBounds p v) t, defers := [] }
  | [], vs, F, t, _, h => by simpa using h
  | p :: ps, [], F, t, _, h => by simpa using h
  | p :: ps, v :: vs, F, t, hp, h => by
    rw [List.all_cons, Bool.and_eq_true] at hp
    have := fr_params ps vs hp.2 (h.put (d := p) (v := v) hp.1)
    simpa [Act.put, List.append_assoc] using this
/-- the round begins -/
theorem r_begin {l j : Nat} {r : Loop} {K : Act → World → Prop} (hj : L[j]? = some (objHP l (.loop r))) (hr : r.state = .ready) (h : Reach w0 S0 n F (L.set j (objHP l (.loop { r with state := .busy }))) K) :
    Reach w0 S0 n F L (fun a w => ∃ w', (Instr.beginRound l).run P w = .ok () w' ∧ K a w') := fun a w hf hs =>
  ⟨_, run_beginRound (hs.obj hj) hr, h a _ hf (hs.turn _ hj)⟩
/-- the round ends -/
theorem r_end {l j : Nat} {r : Loop} {R : Ending → World → Prop} (is : List Nat) {M : List HP} (hj : L[j]? = some (objHP l (.loop r))) (hp : pick (L.set j (objHP l (.loop { r with state := .ready, pending := none }))) is = some M)
    (hR : ∀ W, St w0 S0 M W → R (.returned (.bool true)) W) : Reach w0 S0 n F L (roundPost P l R .normal) := fun a w hf hs =>
  ⟨_, _, run_endRound none (hs.obj hj), hR _ ((hs.turn _ hj).pick is hp)⟩
theorem yield_ok {W : World} {S : FS} {M : List HP} {l j : Nat} {r : Loop} {ps : List Nat} {vs : List Value} {R : World → Prop} (hj : M[j]? = some (objHP l (.loop r))) (hps : r.params = ps.toArray) (hpn : ps.all (fun p => Nat.blt p n) = true) (hlen : vs.length = ps.length) (hs : sats M S W) (hF : Fr F n { tmps := r.tmps, defers := [] })
    (h : ∀ m, Reach W S n ((ps.zip vs).reverse ++ F) M (r.assign.wpIn (RF (some l)) m P (Exit.then (fun a₁ w₁ => ∃ w₂, (Instr.beginRound l).run P w₁ = .ok () w₂ ∧ r.body.wpIn (RF (some l)) m P (roundPost P l fun e W' => e = .returned (.bool true) ∧ R W') a₁ w₂) (fun _ _ _ => False)))) : YieldOK P l vs W R := by
  have hSt : St W S M W := St.start hs
  refine ⟨r.fn, _, r.assign, r.body, run_yield (hSt.obj hj) (by simp [hps, hlen]), fun m => roundIn_of_wpIn trivial ?_⟩
  have hf := fr_params ps vs hpn hF
  refine h m _ W ?_ hSt
  have e : (r.params.zip vs.toArray).foldl (fun tmps (t, a) => tmps.setIfInBounds t a) r.tmps = (ps.zip vs).foldl (fun t (p, v) => t.setIfInBounds p v) r.tmps := by
    rw [hps, ← Array.foldl_toList]
    simp
  rw [e]
  exact hf
def actM (D : Nat) (a : Act) : Act := { a with defers := { target := .collected D, args := #[] } :: a.defers }
/-- operations that stand behind such a statement -/
def tailOp (o : Oper) : Bool := match o.op with
  | .load .. | .assign _ | .move _ | .store .. => true
  | _ => false
theorem tail_run {a : Act} {w : World} (ho : tailOp o = true) : (∃ v w', (execOp a.eval o).run P w = .ok (.value v) w') ∨ (∃ w', (execOp a.eval o).run P w = .ok .skip w') ∨ (∃ e w', (execOp a.eval o).run P w = .halt e w') := by
  unfold tailOp at ho
  split at ho
  · rename_i t x e
    simp only [execOp, e, Sem.run_bind]
    cases (Instr.loadAt t (a.eval x)).run P w with
    | ok v w' => exact .inl ⟨v, w', rfl⟩
    | halt e w' => exact .inr (.inr ⟨e, w', rfl⟩)
  · rename_i x e
    simp only [execOp, e]
    exact .inl ⟨_, _, rfl⟩
  · rename_i x e
    simp only [execOp, e]
    exact .inl ⟨_, _, rfl⟩
  · rename_i t x y e
    simp only [execOp, e, Sem.run_bind]
    cases (Instr.storeAt t (a.eval x) (a.eval y)).run P w with
    | ok v w' => exact .inr (.inl ⟨w', rfl⟩)
    | halt e w' => exact .inr (.inr ⟨e, w', rfl⟩)
  · simp at ho
theorem actM_put (D : Nat) (a : Act) (d : Option Nat) (v : Value) : (actM D a).put d v = actM D (a.put d v) := by cases d <;> rfl
theorem up_M {next next' : Act → World → Prop} {a : Act} {w : World} {D : Nat} (ho : tailOp o = true) (hp : ∀ c a w, Q (.panic c) a w → Q' (.panic c) (actM D a) w) (hn : ∀ a w, next a w → next' (actM D a) w) (h : o.wp P a w next Q) : o.wp P (actM D a) w next' Q' := by
  unfold Oper.wp at h ⊢
  have he : execOp (actM D a).eval o = execOp a.eval o := rfl
  rw [he]
  rcases tail_run (P := P) (a := a) (w := w) ho with ⟨v, w', e⟩ | ⟨w', e⟩ | ⟨e', w', e⟩
  · rw [e] at h ⊢
    show next' ((actM D a).put o.dst v) w'
    rw [actM_put]
    exact hn _ _ h
  · rw [e] at h ⊢
    show next' ((actM D a).put o.dst undef) w'
    rw [actM_put]
    exact hn _ _ h
  · rw [e] at h ⊢
    cases e' with
    | panic v => exact hp _ _ _ h
    | _ => exact h.elim
theorem list_M {D : Nat} [T : NL Q] : ∀ (rest : List Oper), rest.all tailOp = true → ∀ a w, wpList P ops (fun e a w => Q e (actM D a) w) rest a w → wpList P ops Q rest (actM D a) w
  | [], _, a, w, h => h
  | o :: rest, ho, a, w, h => by
    rw [List.all_cons, Bool.and_eq_true] at ho
    have ih := list_M (D := D) rest ho.2
    simp only [wpList] at h ⊢
    have hw' : Region.wanted o (yielded ops (actM D a).tmps) = Region.wanted o (yielded ops a.tmps) := rfl
    rw [hw']
    split
    · rename_i hw
      rw [if_pos hw] at h
      rcases h with h | ⟨_, a', w', h⟩
      · exact .inl (up_M ho.1 (fun c a w h => h) ih h)
      · exact (T.no ⟨_, _, h⟩).elim
    · rename_i hw
      rw [if_neg hw] at h
      have := ih _ _ h
      rwa [← actM_put] at this
theorem m_seq {D : Nat} {x y : Code} (h : Reach w0 S0 n F L (fun a w => x.wp P (Exit.then (y.wp P Q) Q) (actM D a) w)) : Reach w0 S0 n F L (fun a w => (Code.seq x y).wp P Q (actM D a) w) := fun a w hf hs => wp_seq (h a w hf hs)
theorem m_region {D : Nat} {id : Nat} {l : List Oper} [NL Q] (hd : l.all tailOp = true) (h : Reach w0 S0 n F L (wpList P l.toArray (fun e a w => Q e (actM D a) w) l)) : Reach w0 S0 n F L (fun a w => (Code.region id l.toArray false).wp P Q (actM D a) w) := fun a w hf hs => wp_region_lit (list_M l hd _ _ (h a w hf hs))
theorem m_then {D : Nat} {K : Act → World → Prop} (h : Reach w0 S0 n F L (fun a w => K (actM D a) w)) : Reach w0 S0 n F L (fun a w => Exit.then K Q .normal (actM D a) w) := h
theorem m_blk {D : Nat} {id : Nat} (h : Reach w0 S0 n F L (fun a w => Q .normal (actM D a) w)) : Reach w0 S0 n F L (fun a w => Exit.inBlock id Q .normal (actM D a) w) := h
theorem m_ret {D : Nat} (h : Reach w0 S0 n F L (fun a w => Q .ret (actM D a) w)) : Reach w0 S0 n F L (fun a w => Code.ret.wp P Q (actM D a) w) := fun a w hf hs => wp_ret (h a w hf hs)
/-- the return: the mark is come to -/
theorem m_end {D j : Nat} {fn : Func} {R : Ending → World → Prop} (hj : L[j]? = some (objHP D (.deferred (some [])))) (h : Reach w0 S0 n F (L.set j (objHP D (.deferred none))) (bodyPost P fn R .ret)) : Reach w0 S0 n F L (fun a w => bodyPostM (RF none) m P fn R .ret (actM D a) w) := by
  intro a w hf hs
  obtain ⟨hd, v, hr, hR⟩ := h a _ hf (hs.turn (.deferred none) hj)
  refine ⟨by simp, .inl ⟨D, _, rfl, run_takeDeferred (hs.obj hj), ?_⟩⟩
  show LeavesInM (RF none) m P fn a.tmps R a.defers .returning _
  rw [hd]
  exact ⟨v, hr, hR⟩
/-- a function in which such a statement stands -/
theorem enterM0 {f : FuncId} {fn : Func} {c : Code} {vs : List Value} {w : World} {G : Value → List HP → Prop} (hf : P.funcs[f]? = some fn) (hb : fn.body = some c) (hn : fn.ntmps = n) (hl : Nat.ble vs.length n = true)
    (h : Reach w No n (argsF 0 vs) [] (c.wp P (bodyPostM (RF none) 0 P fn (Post w No G)))) : Calls P f vs.toArray w (Post w No G) := by
  refine calls_out (m := 0) (ro := none) (callsIn_of_wp_marks hf hb trivial ((wpIn_wide (n := 0)).2 (h _ _ ⟨rfl, ?_, ?_⟩ (St.start trivial))) rfl)
  · have : vs.length ≤ n := by simpa using hl
    simp [hn]; omega
  · intro t u ht
    obtain ⟨j, rfl, hj⟩ := argsF_get vs 0 t u ht
    have hlt := (List.getElem?_eq_some_iff.1 hj).1
    simp only [Nat.zero_add, Array.getD_eq_getD_getElem?]
    rw [Array.getElem?_append_left (by simpa using hlt)]
    simp [hj]
/-- THE STATEMENT -/
theorem c_range {g : Operand} {ps : List Nat} {assign body : Code} [NL Q] (it : FuncId) (caps : List Value) (M0 Lr : List HP) (N : Nat) (vs : Nat → List Value) (LL : Nat → List HP → Prop) [T : FnTy P it] (hLL : L = M0 ++ Lr) (hg : ev F g = some (.func (.func it) #[] caps.toArray)) (hps : ps.all (fun p => Nat.blt p n) = true) (hlen : ∀ i, (vs i).length = ps.length)
    (hIt : ∀ w S M, Lent w0 S0 M Lr S w → IterOK P it caps N vs w S) (h0 : LL 0 M0)
    (hround : ∀ i M M2 W S l D (r : Loop) m, i < N → LL i M → M2 = objHP l (.loop r) :: objHP D (.deferred (some [])) :: M → Lent w0 S0 M2 Lr S W → r.state = .ready →
      Reach W S n ((ps.zip (vs i)).reverse ++ F) M2 (assign.wpIn (RF (some l)) m P (Exit.then (fun a₁ w₁ => ∃ w₂, (Instr.beginRound l).run P w₁ = .ok () w₂ ∧ body.wpIn (RF (some l)) m P (roundPost P l fun e W2 => e = .returned (.bool true) ∧ ∃ M' S2, (∃ M3, LL (i + 1) M3 ∧ M' = objHP l (.loop { r with state := .ready, pending := none }) :: objHP D (.deferred (some [])) :: M3) ∧ Mod W S W2 S2 ∧ sats M' S2 W2) a₁ w₂) (fun _ _ _ => False))))
    (hdone : ∀ M l D (r : Loop), LL N M → Reach w0 S0 n F (objHP l (.loop r) :: objHP D (.deferred (some [])) :: M ++ Lr) (fun a w => Q .normal (actM D a) w)) :
    Reach w0 S0 n F L ((Code.rangeFunc g ps.toArray assign body).wp P Q) := by
  subst hLL
  intro a w hf hs
  refine (wpIn_wide (n := 0)).1 (wpIn_rangeFunc fun fn _ => ?_)
  let D := w.heap.size
  let r : Loop := { state := .ready, pending := none, fn, tmps := a.tmps, params := ps.toArray, assign, body, defers := w.heap.size }
  let w1 := (w.alloc (.deferred (some []))).alloc (.loop r)
  have hs1 : St w0 S0 (objHP (w.heap.size + 1) (.loop r) :: objHP w.heap.size (.deferred (some [])) :: (M0 ++ Lr)) w1 := by
    have h1 : St w0 S0 ([objHP w.heap.size (.deferred (some []))] ++ (M0 ++ Lr)) (w.alloc (.deferred (some []))) := hs.push (mod_alloc w _) ⟨fun k => w.heap.size ≤ k, fun _ => False, fun k hk => hk, fun k hk => hk.elim, fun k _ hk => hk, ⟨Nat.le_refl _, World.alloc_heap_new w _⟩, trivial⟩
    have h2 := h1.push (M := [objHP (w.heap.size + 1) (.loop r)]) (mod_alloc (w.alloc (.deferred (some []))) (.loop r)) ⟨fun k => w.heap.size + 1 ≤ k, fun _ => False, fun k hk => by simpa using hk, fun k hk => hk.elim, fun k _ hk => hk, ⟨Nat.le_refl _, by have := World.alloc_heap_new (w.alloc (.deferred (some []))) (.loop r); rwa [World.size_alloc] at this⟩, trivial⟩
    exact h2
  obtain ⟨S, Sr, Sf, hm0, hsM, hsr, hSf, hSr, hdis⟩ := St.lend (L0 := objHP (w.heap.size + 1) (.loop r) :: objHP w.heap.size (.deferred (some [])) :: M0) (Lr := Lr) hs1
  have hlent : ∀ M W' S', Mod w1 S W' S' → sats M S' W' → Lent w0 S0 M Lr S' W' := fun M W' S' hm hl => by
    refine ⟨hl, ⟨fun k => Sf k ∨ S' k, ?_, fun k hk => .inr hk⟩, ⟨Sr, sats_move (fun k hk hlt => hm.keep k hlt (fun h => hdis k h hk)) hsr, fun k hk hk2 => ?_⟩⟩
    · exact hm0.trans ⟨hm.os, hm.tape, hm.output, hm.drawn, hm.size, fun k hk hn => hm.keep k hk (fun h => hn (hSf k h)), fun k hk => hk.elim .inl (fun h => (hm.new k h).imp (hSf k) id)⟩
    · rcases hm.new k hk with h | h
      · exact hdis k h hk2
      · have := (hSr k hk2).2; omega
  have hL0 := hlent _ w1 S (Mod.refl _ _) hsM
  have hfr : Fr F n { tmps := r.tmps, defers := [] } := ⟨rfl, hf.sz, hf.look⟩
  have hcall := hIt w1 S _ hL0 (w.heap.size + 1) (fun i M' => ∃ M3, LL i M3 ∧ M' = objHP (w.heap.size + 1) (.loop r) :: objHP w.heap.size (.deferred (some [])) :: M3) (fun i M W' S' hi hM hm hl => by
    obtain ⟨M3, hM3, rfl⟩ := hM
    refine yield_ok (j := 0) (r := r) (ps := ps) rfl rfl hps (hlen i) hl hfr fun m => ?_
    exact hround i M3 _ W' S' (w.heap.size + 1) w.heap.size r m hi hM3 rfl (hlent _ W' S' hm hl) rfl) _ ⟨M0, h0, rfl⟩ hsM
  refine ⟨w.heap.size + 1, [{ target := .collected w.heap.size, args := #[] }], w1, { target := .fn (.func it) caps.toArray, args := #[.func (.yield (w.heap.size + 1)) #[] #[]] }, w1, it, (Value.func (.yield (w.heap.size + 1)) #[] #[] :: caps).toArray, w1, run_enterLoop_outer .., ?_, fun _ _ => trivial, ?_, fun h => by simp [Fence.wide] at h, ?_⟩
  · have e : a.eval g = .func (.func it) #[] caps.toArray := hf.eval hg
    simp only [resolve, rangeCall, e, Deferred.ofValue, Sem.run_pure, List.map_toArray, List.map_cons, List.map_nil, Array.empty_append]
    rfl
  · simp only [invoke]
    have := T.c (#[.func (.yield (w.heap.size + 1)) #[] #[]] ++ caps.toArray) w1
    simpa using this
  · refine (calls_in (ro := none) (m := 0 - 1) hcall).mono ?_
    rintro e w3 ⟨v, L', ⟨M3, hM3, rfl⟩, rfl, S3, hm3, hl3⟩
    have hst : St w0 S0 (objHP (w.heap.size + 1) (.loop r) :: objHP w.heap.size (.deferred (some [])) :: M3 ++ Lr) w3 := by
      have hsr' : sats Lr Sr w3 := sats_move (fun k hk hlt => hm3.keep k hlt (fun h => hdis k h hk)) hsr
      refine ⟨fun k => S3 k ∨ Sr k, hm0.trans ⟨hm3.os, hm3.tape, hm3.output, hm3.drawn, hm3.size, fun k hk hn => hm3.keep k hk (fun h => hn (hSf k h)), ?_⟩, sats_append hl3 hsr' ?_⟩
      · rintro k (hk | hk)
        · exact (hm3.new k hk).imp (hSf k) id
        · exact .inl (hSr k hk).1
      · intro k hk hk2
        rcases hm3.new k hk with h | h
        · exact hdis k h hk2
        · have := (hSr k hk2).2; omega
    refine ⟨none, _, run_endLoop (hst.obj (j := 0) rfl) (by simp [r]), ?_⟩
    exact hdone M3 _ _ _ hM3 a _ hf (hst.turn (j := 0) _ rfl)
end
end Go.Sl
end
section
namespace Fil
abbrev E := Int × Int × Int
def cmpK (a b : Int) : Int := if a < b then -1 else if b < a then 1 else 0
def orderK (a b : E) : Int := if cmpK a.1 b.1 = 0 then cmpK a.2.1 b.2.1 else cmpK a.1 b.1
def sizesK (n m : Int) : Int := if n < 0 then 1 else if 1048576 < n ∨ 4194304 < m then 4 else 0
def aloneK (n u v x : Int) : Int := if min u v < 0 ∨ n ≤ max u v then 5 else if u = v then 6 else if x ≤ -2147483648 ∨ 2147483648 ≤ x then 8 else 0
def belowB (a b : E) : Bool := decide (a.1 < b.1) || (decide (a.1 = b.1) && decide (a.2.1 < b.2.1))
/-- from edge k on -/
def scan (n : Int) : Option E → List E → Int
  | _, [] => 0
  | p, e :: r =>
    if aloneK n e.1 e.2.1 e.2.2 = 0 then
      if e.2.1 < e.1 then 1
      else match p with
        | none => scan n (some e) r
        | some q => if orderK q e = 0 then 7 else if orderK q e = 1 then 1 else scan n (some e) r
    else aloneK n e.1 e.2.1 e.2.2
def rightK (n : Int) (es : List E) : Int := if sizesK n es.length = 0 then scan n none es else sizesK n es.length
theorem scan_at {n : Int} {es : List E} {k : Nat} {e : E} (he : es[k]? = some e) (p : Option E) : scan n p (es.drop k) = (if aloneK n e.1 e.2.1 e.2.2 = 0 then
      if e.2.1 < e.1 then 1
      else match p with
        | none => scan n (some e) (es.drop (k + 1))
        | some q => if orderK q e = 0 then 7 else if orderK q e = 1 then 1 else scan n (some e) (es.drop (k + 1))
    else aloneK n e.1 e.2.1 e.2.2) := by
  obtain ⟨hlt, rfl⟩ := List.getElem?_eq_some_iff.1 he
  rw [List.drop_eq_getElem_cons hlt]
  cases p <;> rfl
theorem orderK_below (a b : E) : (belowB a b = true ↔ orderK a b = -1) ∧ (belowB b a = true ↔ orderK a b = 1) := by
  simp only [belowB, orderK, cmpK, Bool.or_eq_true, Bool.and_eq_true, decide_eq_true_eq]
  constructor <;> (repeat' split) <;> omega
theorem orderK_range (a b : E) : orderK a b = -1 ∨ orderK a b = 0 ∨ orderK a b = 1 := by
  simp only [orderK, cmpK]
  (repeat' split) <;> omega
end Fil
end
section
namespace Go.Proofs.YtpajjnkmaebhcaaGreat
open Go.RowKit Go.Sl Fil
set_option maxRecDepth 100000
set_option maxHeartbeats 8000000
set_option linter.unusedVariables false
set_option linter.unusedSimpArgs false
attribute [local irreducible] Code.wp wpList bodyPost wpQuiet Exit.then Exit.inBlock Post wpAnyH wpOp
def eV (e : E) : List Value := [.int .i64 e.1, .int .i64 e.2.1, .int .i64 e.2.2]
def esV (es : List E) : List Value := es.flatMap eV
theorem esV_at {es : List E} {k : Nat} {e : E} (h : es[k]? = some e) : ((esV es).drop (k * 3)).take 3 = eV e := by
  induction es generalizing k with
  | nil => simp at h
  | cons x es ih =>
    cases k with
    | zero =>
      obtain rfl : x = e := by simpa using h
      rfl
    | succ k =>
      have := ih (k := k) (by simpa using h)
      rw [show (k + 1) * 3 = 3 + k * 3 from by omega]
      show (((eV x) ++ esV es).drop (3 + k * 3)).take 3 = eV e
      rw [← List.drop_drop, List.drop_append_of_le_length (by simp [eV])]
      simpa [eV] using this
theorem esV_length (es : List E) : (esV es).length = es.length * 3 := by
  induction es with
  | nil => rfl
  | cons x es ih => show ((eV x) ++ esV es).length = _; rw [List.length_append, ih]; simp [eV]; omega
theorem isNaN_ok (a : Int) (w : World) : Calls Tryz.prog 79 #[.int .i64 a] w (Post w No (Just (.bool false))) := by
  refine enter0 (vs := [_]) Tryz.func79 rfl Tryz.ntmps79 rfl ?_
  repeat' first
    | refine k_then ?_ | refine c_seq ?_ | refine c_region ?_ | refine s_nil ?_ | refine s_move (by exact rfl) (by exact rfl) ?_ | refine s_assign (by exact rfl) (by exact rfl) ?_ | refine s_neq (by exact rfl) (by exact rfl) (by exact rfl) ?_ | refine c_ret ?_
  refine ret1 [] rfl rfl rfl ⟨by simp, rfl⟩
theorem Compare_ok (a b : Int) (w : World) : Calls Tryz.prog 53 #[.int .i64 a, .int .i64 b] w (Post w No (Just (.int .i64 (cmpK a b)))) := by
  refine enter0 (vs := [_, _]) Tryz.func53 rfl Tryz.ntmps53 rfl ?_
  repeat' first
    | refine k_then ?_ | refine c_seq ?_ | refine c_region ?_ | refine s_nil ?_ | refine s_move (by exact rfl) (by exact rfl) ?_ | refine s_assign (by exact rfl) (by exact rfl) ?_
  refine s_call (by exact rfl) (by exact rfl) (fun w hs => isNaN_ok _ w) ?_
  repeat' first
    | refine k_then ?_ | refine c_seq ?_ | refine c_region ?_ | refine s_nil ?_ | refine s_move (by exact rfl) (by exact rfl) ?_ | refine s_assign (by exact rfl) (by exact rfl) ?_
  refine s_call (by exact rfl) (by exact rfl) (fun w hs => isNaN_ok _ w) ?_
  repeat' first
    | refine k_then ?_ | refine c_seq ?_ | refine c_region ?_ | refine s_nil ?_ | refine s_move (by exact rfl) (by exact rfl) ?_ | refine s_assign (by exact rfl) (by exact rfl) ?_ | refine s_lss (by exact rfl) (by exact rfl) (by exact rfl) ?_ | refine s_gtr (by exact rfl) (by exact rfl) (by exact rfl) ?_ | refine c_skip ?_ | refine c_ret ?_ | refine k_then_ret ?_ | (refine c_cond_p (by exact rfl) (fun h => ?_) (fun h => ?_) <;> try (exfalso; omega)) | refine c_cond_f (by exact rfl) ?_
  all_goals refine ret1 [] rfl rfl rfl ⟨?_, rfl⟩
  all_goals (refine congrArg (Value.int .i64) ?_; simp only [cmpK]; repeat' split)
  all_goals omega
theorem Or_ok (s : Value) (a b : Int) (w : World) (hr : RO w No s [.int .i64 a, .int .i64 b]) (hs : Shp s 2) : Calls Tryz.prog 52 #[s] w (Post w No (Just (.int .i64 (if a = 0 then b else a)))) := by
  refine enter0 (vs := [_]) Tryz.func52 rfl Tryz.ntmps52 rfl ?_
  repeat' first
    | refine k_then ?_ | refine c_seq ?_ | refine c_region ?_ | refine s_nil ?_ | refine s_move (by exact rfl) (by exact rfl) ?_ | refine s_assign (by exact rfl) (by exact rfl) ?_ | refine s_len (by exact rfl) (by exact rfl) (by assumption) ?_ | refine c_block ?_
  refine c_loop (fun k : Nat => k ≤ 2 ∧ (0 < k → a = 0) ∧ (1 < k → b = 0)) (fun k => [(0, s), (6, s), (7, .int .i64 2), (8, .int .i64 (k : Int)), (3, .int .i64 0)]) (fun _ => []) (fun k => 2 - k) 0 [] ⟨by omega, by omega, by omega⟩ rfl ⟨rfl, rfl, rfl, rfl, rfl, trivial⟩ ?_
  rintro k ⟨hk, ha, hb⟩
  by_cases hlt : k < 2
  · have hc : ([.int .i64 a, .int .i64 b] : List Value)[k * 1]? = some (.int .i64 (if k = 0 then a else b)) := by
      rcases Nat.lt_or_ge k 1 with h | h
      · obtain rfl : k = 0 := by omega
        rfl
      · obtain rfl : k = 1 := by omega
        rfl
    repeat' first
      | refine k_then ?_ | refine c_seq ?_ | refine c_region ?_ | refine s_nil ?_ | refine s_move (by exact rfl) (by exact rfl) ?_ | refine s_assign (by exact rfl) (by exact rfl) ?_ | refine s_lss (by exact rfl) (by exact rfl) (by exact rfl) ?_ | refine s_neq (by exact rfl) (by exact rfl) (by exact rfl) ?_ | refine s_add (by exact rfl) (by exact rfl) (by exact rfl) (by omega) ?_ | refine s_idx (by exact rfl) (by exact rfl) (by exact rfl) (by assumption) (by first | assumption | omega) ?_ | refine s_ld_ro (by exact rfl) (by exact rfl) (by assumption) (by assumption) ?_ | refine c_block ?_ | refine c_skip ?_ | refine c_ret ?_ | refine k_then_ret ?_ | refine k_blk ?_ | refine k_blk_ret ?_ | (refine c_cond_p (by exact rfl) (fun h => ?_) (fun h => ?_) <;> try (exfalso; omega))
    · refine ret1 [] rfl rfl rfl ⟨congrArg (Value.int .i64) ?_, rfl⟩
      rcases Nat.lt_or_ge k 1 with h' | h'
      · obtain rfl : k = 0 := by omega
        simp_all
      · obtain rfl : k = 1 := by omega
        simp_all
    · refine c_round (k + 1) [] (by exact rfl) (by exact ⟨rfl, rfl, rfl, rfl, rfl, trivial⟩) ⟨by omega, fun _ => ?_, fun _ => ?_⟩ (by omega)
      · rcases Nat.lt_or_ge k 1 with h' | h'
        · obtain rfl : k = 0 := by omega
          simp_all
        · exact ha (by omega)
      · obtain rfl : k = 1 := by omega
        simp_all
  · repeat' first
      | refine k_then ?_ | refine c_seq ?_ | refine c_region ?_ | refine s_nil ?_ | refine s_move (by exact rfl) (by exact rfl) ?_ | refine s_assign (by exact rfl) (by exact rfl) ?_ | refine s_lss (by exact rfl) (by exact rfl) (by exact rfl) ?_ | refine c_exit ?_ | refine c_ret ?_ | refine k_then_exit ?_ | refine k_blk_eq ?_ | (refine c_cond_p (by exact rfl) (fun h => ?_) (fun h => ?_) <;> try (exfalso; omega))
    refine ret1 [] rfl rfl rfl ⟨congrArg (Value.int .i64) ?_, rfl⟩
    simp [ha (by omega), hb (by omega)]
theorem sizes_ok (n m : Int) (w : World) :
    Calls Tryz.prog 35 #[.int .i64 n, .int .i64 m] w (Post w No (Just (.int .i64 (sizesK n m)))) := by
  refine enter0 (vs := [_, _]) Tryz.func35 rfl Tryz.ntmps35 rfl ?_
  repeat' first
    | refine k_then ?_ | refine c_seq ?_ | refine c_region ?_ | refine s_nil ?_ | refine s_move (by exact rfl) (by exact rfl) ?_ | refine s_assign (by exact rfl) (by exact rfl) ?_ | refine s_lss (by exact rfl) (by exact rfl) (by exact rfl) ?_ | refine s_gtr (by exact rfl) (by exact rfl) (by exact rfl) ?_ | refine c_block ?_ | refine c_skip ?_ | refine c_ret ?_ | refine k_then_ret ?_ | refine k_blk ?_ | refine k_blk_ret ?_ | (refine c_cond_p (by exact rfl) (fun h => ?_) (fun h => ?_) <;> try (exfalso; omega))
  all_goals refine ret1 [] rfl rfl rfl ⟨?_, rfl⟩
  all_goals (refine congrArg (Value.int .i64) ?_; simp only [sizesK]; repeat' split)
  all_goals omega
theorem alone_ok (n : Int) (e : E) (w : World) :
    Calls Tryz.prog 36 #[.int .i64 n, .agg (eV e).toArray] w (Post w No (Just (.int .i64 (aloneK n e.1 e.2.1 e.2.2)))) := by
  refine enter0 (vs := [_, _]) Tryz.func36 rfl Tryz.ntmps36 rfl ?_
  repeat' first
    | refine k_then ?_ | refine c_seq ?_ | refine c_region ?_ | refine s_nil ?_ | refine s_move (by exact rfl) (by exact rfl) ?_ | refine s_assign (by exact rfl) (by exact rfl) ?_ | refine s_fa (by exact rfl) (by exact rfl) ?_ | refine s_ld_box (by exact rfl) (by exact rfl) (by exact .head _) (by exact rfl) ?_ | refine s_lss (by exact rfl) (by exact rfl) (by exact rfl) ?_ | refine s_leq (by exact rfl) (by exact rfl) (by exact rfl) ?_ | refine s_eql (by exact rfl) (by exact rfl) (by exact rfl) ?_ | refine s_min (by exact rfl) (by exact rfl) (by exact rfl) ?_ | refine s_pick_t (by exact rfl) (by exact rfl) (by exact rfl) ?_ | refine s_pick_f (by exact rfl) (by exact rfl) (by exact rfl) ?_ | refine o_box (by exact rfl) (by exact rfl) (fun b => ?_) | refine c_block ?_ | refine c_skip ?_ | refine c_ret ?_ | refine k_then_ret ?_ | refine k_blk ?_ | refine k_blk_ret ?_ | (refine c_cond_p (by exact rfl) (fun h => ?_) (fun h => ?_) <;> try (exfalso; omega)) | refine c_cond_t (by exact rfl) ?_ | (refine g_case (by exact rfl) (by exact rfl) (fun h => ?_) (fun h => ?_) <;> try (exfalso; omega)) | refine g_skip (by exact rfl) (by exact rfl) (by exact rfl) (by exact rfl) ?_ | refine w_move (by exact rfl) (by exact rfl) (by exact rfl) (by exact rfl) ?_ | refine w_fa (by exact rfl) (by exact rfl) (by exact rfl) (by exact rfl) ?_ | refine w_ld_box (by exact rfl) (by exact rfl) (by exact rfl) (by exact rfl) (by exact .head _) (by exact rfl) ?_ | refine w_geq (by exact rfl) (by exact rfl) (by exact rfl) (by exact rfl) (by exact rfl) ?_ | refine w_max (by exact rfl) (by exact rfl) (by exact rfl) (by exact rfl) (by exact rfl) ?_
  all_goals refine ret1 [] rfl rfl rfl ⟨?_, rfl⟩
  all_goals (refine congrArg (Value.int .i64) ?_; simp only [aloneK]; repeat' split)
  all_goals omega
theorem order_ok (a b : E) (w : World) : Calls Tryz.prog 38 #[.agg (eV a).toArray, .agg (eV b).toArray] w (Post w No (Just (.int .i64 (orderK a b)))) := by
  refine enter0 (vs := [_, _]) Tryz.func38 rfl Tryz.ntmps38 rfl ?_
  repeat' first
    | refine k_then ?_ | refine c_seq ?_ | refine c_region ?_ | refine s_nil ?_ | refine s_assign (by exact rfl) (by exact rfl) ?_ | refine o_box (by exact rfl) (by exact rfl) (fun b => ?_)
  refine p_begin0 [(0, true), (1, true), (2, true), (3, true), (5, true), (6, true), (7, true), (8, true), (4, false), (9, false), (10, false), (11, false), (12, true)] (by kernel_rfl) ?_
  repeat' first
    | (refine p_at (by exact rfl) ?_
       first
        | refine t_fa (by exact rfl) (by exact rfl) (by exact fun _ h => h) ?_ | refine t_ld_box (by exact rfl) (by exact rfl) (by first | exact .head _ | exact .tail _ (.head _)) (by exact rfl) (by exact fun _ h => h) ?_)
  refine p_call (gd := none) (by exact rfl) rfl (by exact rfl) (fun w hs => Compare_ok _ _ w) (by exact fun _ h => h) ?_
  refine p_call (gd := none) (by exact rfl) rfl (by exact rfl) (fun w hs => Compare_ok _ _ w) (by exact fun _ h => h) ?_
  refine p_mk [_, _] (by exact rfl) rfl (by exact rfl) rfl ?_ ?_ (by simp) (fun w A h => h.tl) (fun s hs => ?_)
  · simp [Value.cells]
  · simp
  refine p_call (gd := none) (by exact rfl) rfl (by exact rfl) (fun w h => Or_ok s _ _ w (ro_own h (.head _)) hs) (by exact fun _ h => h.tl) ?_
  repeat' first
    | refine p_nil ?_
    | (refine p_at (by exact rfl) ?_
       first
        | refine t_assign (by exact rfl) (by exact rfl) (by exact fun _ h => h.tl) ?_)
  repeat' first
    | refine k_then ?_ | refine c_ret ?_
  refine ret1 [] rfl rfl rfl ⟨?_, rfl⟩
  simp [orderK]
def prev (es : List E) (k : Nat) : Option E := if k = 0 then none else es[k - 1]?
theorem Right_ok (n : Int) (v : Value) (es : List E) (w : World) (hs : Shp v es.length) (hr : RO w No v (esV es)) (hm : es.length < 4611686018427387904) :
    Calls Tryz.prog 32 #[.agg #[.int .i64 n, v]] w (Post w No (Just (.int .i64 (rightK n es)))) := by
  refine enter0 (vs := [_]) Tryz.func32 rfl Tryz.ntmps32 rfl ?_
  repeat' first
    | refine k_then ?_ | refine c_seq ?_ | refine c_region ?_ | refine s_nil ?_ | refine s_assign (by exact rfl) (by exact rfl) ?_ | refine s_fa (by exact rfl) (by exact rfl) ?_ | refine s_ld_box (by exact rfl) (by exact rfl) (by exact .head _) (by exact rfl) ?_ | refine s_len (by exact rfl) (by exact rfl) (by assumption) ?_ | refine o_box (by exact rfl) (by exact rfl) (fun b => ?_)
  refine s_call (by exact rfl) (by exact rfl) (fun w hs => sizes_ok _ _ w) ?_
  repeat' first
    | refine k_then ?_ | refine c_seq ?_ | refine c_region ?_ | refine s_nil ?_ | refine s_move (by exact rfl) (by exact rfl) ?_ | refine s_assign (by exact rfl) (by exact rfl) ?_ | refine s_fa (by exact rfl) (by exact rfl) ?_ | refine s_ld_box (by exact rfl) (by exact rfl) (by exact .head _) (by exact rfl) ?_ | refine s_neq (by exact rfl) (by exact rfl) (by exact rfl) ?_ | refine s_len (by exact rfl) (by exact rfl) (by assumption) ?_ | refine c_block ?_ | refine c_skip ?_ | refine c_ret ?_ | refine k_then_ret ?_ | (refine c_cond_p (by exact rfl) (fun h => ?_) (fun h => ?_) <;> try (exfalso; omega))
  · refine ret1 [] rfl rfl rfl ⟨congrArg (Value.int .i64) ?_, rfl⟩
    rw [rightK, if_neg h]
  · have h0 : sizesK n es.length = 0 := by simpa using h
    refine c_loop (fun k : Nat => k ≤ es.length ∧ scan n (prev es k) (es.drop k) = scan n none es) (fun k => [(1, .pointer (some ⟨b, 0, none⟩)), (17, v), (18, .int .i64 (es.length : Int)), (19, .int .i64 (k : Int))]) (fun _ => [boxHP b 24 [.int .i64 n, v]]) (fun k => es.length - k) 0 [0] ⟨by omega, rfl⟩ rfl ⟨rfl, rfl, rfl, rfl, trivial⟩ ?_
    rintro k ⟨hk, hsc⟩
    by_cases hlt : k < es.length
    · obtain ⟨e, he⟩ : ∃ e, es[k]? = some e := ⟨_, List.getElem?_eq_getElem hlt⟩
      have hE := esV_at he
      rw [scan_at he] at hsc
      repeat' first
        | refine k_then ?_ | refine c_seq ?_ | refine c_region ?_ | refine s_nil ?_ | refine s_move (by exact rfl) (by exact rfl) ?_ | refine s_assign (by exact rfl) (by exact rfl) ?_ | refine s_lss (by exact rfl) (by exact rfl) (by exact rfl) ?_ | refine s_idx (by exact rfl) (by exact rfl) (by exact rfl) (by assumption) (by first | assumption | omega) ?_ | refine s_ldk_ro (by exact rfl) (by exact rfl) (by assumption) (by decide) (by assumption) (by exact rfl) ?_ | refine o_alloc (by exact rfl) (fun b => ?_) | refine c_block ?_ | refine c_skip ?_ | (refine c_cond_p (by exact rfl) (fun h => ?_) (fun h => ?_) <;> try (exfalso; omega))
      refine o_stk_box (i := 0) (us := eV e) (by exact rfl) (by exact rfl) (by exact rfl) (by exact rfl) (by exact rfl) (by simp [eV, Value.oneCell']) (by simp [Value.cells]) ?_
      repeat' first
        | refine k_then ?_ | refine c_seq ?_ | refine c_region ?_ | refine s_nil ?_ | refine s_fa (by exact rfl) (by exact rfl) ?_ | refine s_ld_box (by exact rfl) (by exact rfl) (by exact .tail _ (.head _)) (by exact rfl) ?_ | refine s_ldk_box (by exact rfl) (by exact rfl) (by exact .head _) (by exact rfl) (by exact rfl) ?_
      refine s_call (by exact rfl) (by exact rfl) (fun w hs => alone_ok n e w) ?_
      repeat' first
        | refine k_then ?_ | refine c_seq ?_ | refine c_region ?_ | refine s_nil ?_ | refine s_move (by exact rfl) (by exact rfl) ?_ | refine s_assign (by exact rfl) (by exact rfl) ?_ | refine s_fa (by exact rfl) (by exact rfl) ?_ | refine s_ld_box (by exact rfl) (by exact rfl) (by exact .head _) (by exact rfl) ?_ | refine s_gtr (by exact rfl) (by exact rfl) (by exact rfl) ?_ | refine s_eql (by exact rfl) (by exact rfl) (by exact rfl) ?_ | refine s_neq (by exact rfl) (by exact rfl) (by exact rfl) ?_ | refine s_add (by exact rfl) (by exact rfl) (by exact rfl) (by omega) ?_ | refine c_block ?_ | refine c_skip ?_ | refine c_exit ?_ | refine c_ret ?_ | refine k_then_ret ?_ | refine k_then_exit ?_ | refine k_blk ?_ | refine k_blk_ret ?_ | refine k_blk_eq ?_ | refine k_blk_ne (by exact rfl) ?_ | (refine c_cond_p (by exact rfl) (fun h => ?_) (fun h => ?_) <;> try (exfalso; omega))
      · refine ret1 [] rfl rfl rfl ⟨congrArg (Value.int .i64) ?_, rfl⟩
        rw [rightK, if_pos h0, ← hsc, if_neg h]
      · refine ret1 [] rfl rfl rfl ⟨congrArg (Value.int .i64) ?_, rfl⟩
        rw [rightK, if_pos h0, ← hsc, if_pos (by omega), if_pos h]
      · refine c_round (k + 1) [1] (by exact rfl) (by exact ⟨rfl, rfl, rfl, rfl, trivial⟩) ⟨by omega, ?_⟩ (by omega)
        obtain rfl : k = 0 := by omega
        rw [← hsc, if_pos (by omega), if_neg (by omega)]
        simp only [prev, Nat.zero_add, Nat.one_ne_zero, if_false, Nat.sub_self, he, if_true]
      · obtain ⟨q, hq⟩ : ∃ q, es[k - 1]? = some q := ⟨_, List.getElem?_eq_getElem (by omega)⟩
        have hQ : ((esV es).drop (((k : Int) - 1).toNat * 3)).take 3 = eV q := by
          rw [show ((k : Int) - 1).toNat = k - 1 from by omega]
          exact esV_at hq
        have hpr : prev es k = some q := by rw [prev, if_neg (by omega), hq]
        rw [hpr] at hsc
        refine p_begin0 [(0, true), (1, true), (2, true), (3, true), (4, true), (5, true), (6, true), (7, false)] (by kernel_rfl) ?_
        repeat' first
          | (refine p_at (by exact rfl) ?_
             first
              | refine t_move (by exact rfl) (by exact rfl) (by exact fun _ h => h) ?_ | refine t_fa (by exact rfl) (by exact rfl) (by exact fun _ h => h) ?_ | refine t_ld_box (by exact rfl) (by exact rfl) (by exact .tail _ (.head _)) (by exact rfl) (by exact fun _ h => h) ?_ | refine t_sub (by exact rfl) (by exact rfl) (by exact rfl) (by omega) (by exact fun _ h => h) ?_ | refine t_idxi (by exact rfl) (by exact rfl) (by exact rfl) (by assumption) (by first | assumption | omega) (by exact fun _ h => h) ?_ | refine t_ldk_box (by exact rfl) (by exact rfl) (by exact .head _) (by exact rfl) (by exact rfl) (by exact fun _ h => h) ?_ | refine t_ldk_ro (by exact rfl) (by exact rfl) (by assumption) (by decide) (by assumption) (by exact rfl) (by exact fun _ h => h) ?_)
        refine p_call (gd := none) (by exact rfl) rfl (by exact rfl) (fun w hs => order_ok q e w) (by exact fun _ h => h) ?_
        repeat' first
          | refine p_nil ?_
        repeat' first
          | refine k_then ?_ | refine c_seq ?_ | refine c_region ?_ | refine s_nil ?_ | refine s_move (by exact rfl) (by exact rfl) ?_ | refine s_assign (by exact rfl) (by exact rfl) ?_ | refine s_eql (by exact rfl) (by exact rfl) (by exact rfl) ?_ | refine s_add (by exact rfl) (by exact rfl) (by exact rfl) (by omega) ?_ | refine c_block ?_ | refine c_skip ?_ | refine c_ret ?_ | refine k_then_ret ?_ | refine k_blk ?_ | refine k_blk_ret ?_ | (refine c_cond_p (by exact rfl) (fun h => ?_) (fun h => ?_) <;> try (exfalso; omega))
        · refine ret1 [] rfl rfl rfl ⟨congrArg (Value.int .i64) ?_, rfl⟩
          rw [rightK, if_pos h0, ← hsc, if_pos (by omega), if_neg (by omega)]
          simp only [if_pos h]
        · refine ret1 [] rfl rfl rfl ⟨congrArg (Value.int .i64) ?_, rfl⟩
          rw [rightK, if_pos h0, ← hsc, if_pos (by omega), if_neg (by omega)]
          simp only [if_pos h]
          split <;> first | omega | rfl
        · refine c_round (k + 1) [1] (by exact rfl) (by exact ⟨rfl, rfl, rfl, rfl, trivial⟩) ⟨by omega, ?_⟩ (by omega)
          rw [← hsc, if_pos (by omega), if_neg (by omega)]
          simp only [prev, Nat.add_sub_cancel, he]
          rw [if_neg (by omega), if_neg (by omega), if_neg (by omega)]
    · repeat' first
        | refine k_then ?_ | refine c_seq ?_ | refine c_region ?_ | refine s_nil ?_ | refine s_assign (by exact rfl) (by exact rfl) ?_ | refine s_lss (by exact rfl) (by exact rfl) (by exact rfl) ?_ | refine c_exit ?_ | refine c_ret ?_ | refine k_then_exit ?_ | refine k_blk_eq ?_ | (refine c_cond_p (by exact rfl) (fun h => ?_) (fun h => ?_) <;> try (exfalso; omega))
      refine ret1 [] rfl rfl rfl ⟨congrArg (Value.int .i64) ?_, rfl⟩
      rw [rightK, if_pos h0, ← hsc, List.drop_eq_nil_of_le (by omega)]
      simp [scan]
end Go.Proofs.YtpajjnkmaebhcaaGreat
end
section
namespace Fil
theorem getD_set {α : Type} (l : List α) (u v : Nat) (x d : α) : (l.set u x).getD v d = if u = v ∧ u < l.length then x else l.getD v d := by
  simp only [List.getD_eq_getElem?_getD, List.getElem?_set]
  by_cases h : u = v
  · subst h
    by_cases h2 : u < l.length
    · simp [h2]
    · simp [h2]
  · simp [h]
/-- c is one on both ends of each edge -/
def OnEdges (N : Nat) (A : Nat → List Nat) (c : Nat → Nat) : Prop := ∀ v, v < N → ∀ u ∈ A v, c u = c v
structure Adj (N : Nat) (A : Nat → List Nat) : Prop where
  lt : ∀ v, v < N → ∀ u ∈ A v, u < N
  sym : ∀ v u, v < N → u ∈ A v → v ∈ A u
structure Bfs (N : Nat) (A : Nat → List Nat) (first : Nat) (met : List Bool) (out : List Nat) (lab : Nat → Nat) (line : List Nat) : Prop where
  lm : met.length = N
  lo : out.length = N
  line_lt : ∀ v ∈ line, v < N
  line_met : ∀ v ∈ line, met.getD v false = true
  line_lab : ∀ v ∈ line, lab v = first
  order : line.Pairwise fun a b => out.getD a 0 ≤ out.getD b 0
  head : ∀ a, line.head? = some a → ∀ b ∈ line, out.getD b 0 ≤ out.getD a 0 + 1
  done : ∀ w, w < N → met.getD w false = true → w ∉ line → ∀ u ∈ A w, met.getD u false = true ∧ lab u = lab w ∧ out.getD u 0 ≤ out.getD w 0 + 1
  low : ∀ w, w < N → met.getD w false = true → w ∉ line → lab w = first → ∀ b ∈ line, out.getD w 0 ≤ out.getD b 0
  up : ∀ v k, v < N → met.getD v false = true → out.getD v 0 = k + 1 → ∃ u ∈ A v, met.getD u false = true ∧ out.getD u 0 = k
  root : ∀ v, v < N → met.getD v false = true → (out.getD v 0 = 0 ↔ lab v = v)
  zero : ∀ v, met.getD v false = false → out.getD v 0 = 0
  lab_le : ∀ v, v < N → met.getD v false = true → lab v ≤ v
  lab_met : ∀ v, v < N → met.getD v false = true → met.getD (lab v) false = true ∧ lab (lab v) = lab v
  conn : ∀ v, v < N → met.getD v false = true → ∀ c, OnEdges N A c → c v = c (lab v)
  below : ∀ w, w < first → met.getD w false = true
/-- met, from the current one -/
def Seen (A : Nat → List Nat) (first : Nat) (met : List Bool) (out : List Nat) (lab : Nat → Nat) (v j : Nat) : Prop :=
  ∀ u ∈ (A v).take j, met.getD u false = true ∧ lab u = first ∧ out.getD u 0 ≤ out.getD v 0 + 1
theorem Bfs.old {N : Nat} {A : Nat → List Nat} {first v u j : Nat} {met : List Bool} {out : List Nat} {lab : Nat → Nat} {rest : List Nat} (hA : Adj N A) (h : Bfs N A first met out lab (v :: rest)) (hs : Seen A first met out lab v j) (hu : (A v)[j]? = some u) (hm : met.getD u false = true) : Seen A first met out lab v (j + 1) := by
  have hv : v < N := h.line_lt v (by simp)
  have huA : u ∈ A v := List.mem_of_getElem? hu
  have hun := hA.lt v hv u huA
  intro x hx
  rw [List.take_add_one, hu] at hx
  rcases List.mem_append.1 hx with hx | hx
  · exact hs x hx
  · obtain rfl : x = u := by simpa using hx
    refine ⟨hm, ?_⟩
    by_cases hl : x ∈ v :: rest
    · exact ⟨h.line_lab x hl, h.head v rfl x hl⟩
    · obtain ⟨_, h2, _⟩ := h.done x hun hm hl v (hA.sym v x hv huA)
      have hv1 := h.line_lab v (by simp)
      have hf : lab x = first := by rw [← h2, hv1]
      refine ⟨hf, ?_⟩
      have := h.low x hun hm hl hf v (by simp)
      omega
theorem Bfs.new {N : Nat} {A : Nat → List Nat} {first v u j : Nat} {met : List Bool} {out : List Nat} {lab : Nat → Nat} {rest : List Nat} (hA : Adj N A) (h : Bfs N A first met out lab (v :: rest)) (hs : Seen A first met out lab v j) (hu : (A v)[j]? = some u) (hm : met.getD u false = false) :
    Bfs N A first (met.set u true) (out.set u (out.getD v 0 + 1)) (fun x => if x = u then first else lab x) (v :: rest ++ [u]) ∧ Seen A first (met.set u true) (out.set u (out.getD v 0 + 1)) (fun x => if x = u then first else lab x) v (j + 1) := by
  have hv : v < N := h.line_lt v (by simp)
  have hvm := h.line_met v (by simp)
  have huA : u ∈ A v := List.mem_of_getElem? hu
  have hun := hA.lt v hv u huA
  have hul : u < met.length := by rw [h.lm]; exact hun
  have hulo : u < out.length := by rw [h.lo]; exact hun
  have hne : ∀ x, met.getD x false = true → x ≠ u := fun x hx e => by subst e; rw [hm] at hx; simp at hx
  have hnv := hne v hvm
  have M : ∀ x, (met.set u true).getD x false = if u = x then true else met.getD x false := fun x => by rw [getD_set]; simp [hul]
  have O : ∀ x, (out.set u (out.getD v 0 + 1)).getD x 0 = if u = x then out.getD v 0 + 1 else out.getD x 0 := fun x => by rw [getD_set]; simp [hulo]
  have Om : ∀ x, met.getD x false = true → (out.set u (out.getD v 0 + 1)).getD x 0 = out.getD x 0 := fun x hx => by rw [O, if_neg (Ne.symm (hne x hx))]
  have Mm : ∀ x, met.getD x false = true → (met.set u true).getD x false = true := fun x hx => by rw [M]; split <;> simp_all
  have Mt : ∀ x, (met.set u true).getD x false = true → x = u ∨ met.getD x false = true := fun x hx => by
    rw [M] at hx
    split at hx
    · left; rename_i e; exact e.symm
    · exact .inr hx
  have hlabv := h.line_lab v (by simp)
  have hfirst := h.lab_met v hv hvm
  rw [hlabv] at hfirst
  have hfu : first ≠ u := hne _ hfirst.1
  have hfle : first ≤ u := by
    rcases Nat.lt_or_ge u first with hlt | hge
    · have := h.below u hlt; rw [hm] at this; simp at this
    · exact hge
  refine ⟨⟨by simp [h.lm], by simp [h.lo], ?_, ?_, ?_, ?_, ?_, ?_, ?_, ?_, ?_, ?_, ?_, ?_, ?_, ?_⟩, ?_⟩
  · intro x hx
    rcases List.mem_append.1 hx with hx | hx
    · exact h.line_lt x hx
    · obtain rfl : x = u := by simpa using hx
      exact hun
  · intro x hx
    rcases List.mem_append.1 hx with hx | hx
    · exact Mm x (h.line_met x hx)
    · obtain rfl : x = u := by simpa using hx
      rw [M, if_pos rfl]
  · intro x hx
    rcases List.mem_append.1 hx with hx | hx
    · simp [hne x (h.line_met x hx), h.line_lab x hx]
    · obtain rfl : x = u := by simpa using hx
      simp
  · refine List.pairwise_append.2 ⟨?_, by simp, ?_⟩
    · refine h.order.imp_of_mem fun {a b} ha hb hab => ?_
      rw [Om a (h.line_met a ha), Om b (h.line_met b hb)]
      exact hab
    · intro a ha b hb
      obtain rfl : b = u := by simpa using hb
      rw [Om a (h.line_met a ha), O b, if_pos rfl]
      exact h.head v rfl a ha
  · intro a ha b hb
    obtain rfl : v = a := by simpa using ha
    rw [Om v hvm]
    rcases List.mem_append.1 hb with hb | hb
    · rw [Om b (h.line_met b hb)]
      exact h.head v rfl b hb
    · obtain rfl : b = u := by simpa using hb
      rw [O b, if_pos rfl]
      exact Nat.le_refl _
  · intro w hw hwm hwl x hx
    have hwu : w ≠ u := fun e => hwl (by simp [e])
    have hwm' : met.getD w false = true := (Mt w hwm).resolve_left hwu
    obtain ⟨h1, h2, h3⟩ := h.done w hw hwm' (fun hh => hwl (List.mem_append.2 (.inl hh))) x hx
    refine ⟨Mm x h1, ?_, ?_⟩
    · simp [hne x h1, hwu, h2]
    · rw [Om x h1, Om w hwm']; exact h3
  · intro w hw hwm hwl hwf b hb
    have hwu : w ≠ u := fun e => hwl (by simp [e])
    have hwm' : met.getD w false = true := (Mt w hwm).resolve_left hwu
    have hwl' : w ∉ v :: rest := fun hh => hwl (List.mem_append.2 (.inl hh))
    have hwf' : lab w = first := by simpa [hwu] using hwf
    rw [Om w hwm']
    rcases List.mem_append.1 hb with hb | hb
    · rw [Om b (h.line_met b hb)]
      exact h.low w hw hwm' hwl' hwf' b hb
    · obtain rfl : b = u := by simpa using hb
      rw [O b, if_pos rfl]
      have := h.low w hw hwm' hwl' hwf' v (by simp)
      omega
  · intro x k hx hxm hxk
    rcases Mt x hxm with rfl | hxm'
    · rw [O x, if_pos rfl] at hxk
      exact ⟨v, hA.sym v x hv huA, Mm v hvm, by rw [Om v hvm]; omega⟩
    · rw [Om x hxm'] at hxk
      obtain ⟨y, hy, hym, hyk⟩ := h.up x k hx hxm' hxk
      exact ⟨y, hy, Mm y hym, by rw [Om y hym]; exact hyk⟩
  · intro x hx hxm
    rcases Mt x hxm with rfl | hxm'
    · rw [O x, if_pos rfl, if_pos rfl]
      exact ⟨fun e => by omega, fun e => absurd e hfu⟩
    · rw [Om x hxm', if_neg (hne x hxm')]
      exact h.root x hx hxm'
  · intro x hx
    rw [M] at hx
    rw [O]
    split at hx
    · simp at hx
    · rename_i e
      rw [if_neg e]
      exact h.zero x hx
  · intro x hx hxm
    rcases Mt x hxm with rfl | hxm'
    · simpa using hfle
    · simpa [hne x hxm'] using h.lab_le x hx hxm'
  · intro x hx hxm
    rcases Mt x hxm with rfl | hxm'
    · simp only [if_true]
      refine ⟨Mm _ hfirst.1, ?_⟩
      rw [if_neg hfu]
      exact hfirst.2
    · obtain ⟨h1, h2⟩ := h.lab_met x hx hxm'
      rw [if_neg (hne x hxm')]
      refine ⟨Mm _ h1, ?_⟩
      rw [if_neg (hne _ h1)]
      exact h2
  · intro x hx hxm c hc
    rcases Mt x hxm with rfl | hxm'
    · rw [if_pos rfl, hc v hv x huA, ← hlabv]
      exact h.conn v hv hvm c hc
    · rw [if_neg (hne x hxm')]
      exact h.conn x hx hxm' c hc
  · intro w hw
    exact Mm w (h.below w hw)
  · intro x hx
    rw [List.take_add_one, hu] at hx
    rcases List.mem_append.1 hx with hx | hx
    · obtain ⟨h1, h2, h3⟩ := hs x hx
      refine ⟨Mm x h1, by simp [hne x h1, h2], ?_⟩
      rw [Om x h1, Om v hvm]; exact h3
    · obtain rfl : x = u := by simpa using hx
      refine ⟨by rw [M, if_pos rfl], by simp, ?_⟩
      rw [O x, if_pos rfl, Om v hvm]
      exact Nat.le_refl _
/-- the current one is done -/
theorem Bfs.pop {N : Nat} {A : Nat → List Nat} {first v : Nat} {met : List Bool} {out : List Nat} {lab : Nat → Nat} {rest : List Nat} (h : Bfs N A first met out lab (v :: rest)) (hs : Seen A first met out lab v (A v).length) : Bfs N A first met out lab rest := by
  rw [Seen, List.take_length] at hs
  have hv := h.line_lt v (by simp)
  have hvl := h.line_lab v (by simp)
  obtain ⟨ho1, ho2⟩ := List.pairwise_cons.1 h.order
  refine { h with line_lt := fun x hx => h.line_lt x (by simp [hx]), line_met := fun x hx => h.line_met x (by simp [hx]), line_lab := fun x hx => h.line_lab x (by simp [hx]), order := ho2, head := ?_, done := ?_, low := ?_ }
  · intro a ha b hb
    have h1 := h.head v rfl b (by simp [hb])
    have h2 := ho1 a (List.mem_of_mem_head? ha)
    omega
  · intro w hw hwm hwl u hu
    by_cases hwv : w = v
    · subst hwv
      obtain ⟨h1, h2, h3⟩ := hs u hu
      exact ⟨h1, by rw [h2, hvl], h3⟩
    · exact h.done w hw hwm (by simp [hwv, hwl]) u hu
  · intro w hw hwm hwl hwf b hb
    by_cases hwv : w = v
    · subst hwv; exact ho1 b hb
    · exact h.low w hw hwm (by simp [hwv, hwl]) hwf b (by simp [hb])
/-- the next one was met already -/
theorem Bfs.next {N : Nat} {A : Nat → List Nat} {first : Nat} {met : List Bool} {out : List Nat} {lab : Nat → Nat} (h : Bfs N A first met out lab []) (hm : met.getD first false = true) : Bfs N A (first + 1) met out lab [] :=
  { h with
    line_lab := fun v hv => by simp at hv
    low := fun w hw hwm hwl hwf b hb => by simp at hb
    below := fun w hw => by
      rcases Nat.lt_or_ge w first with hlt | hge
      · exact h.below w hlt
      · obtain rfl : w = first := by omega
        exact hm }
/-- .. or was not -/
theorem Bfs.start {N : Nat} {A : Nat → List Nat} {first : Nat} {met : List Bool} {out : List Nat} {lab : Nat → Nat} (h : Bfs N A first met out lab []) (hf : first < N) (hm : met.getD first false = false) : Bfs N A first (met.set first true) out (fun x => if x = first then first else lab x) [first] := by
  have hul : first < met.length := by rw [h.lm]; exact hf
  have hne : ∀ x, met.getD x false = true → x ≠ first := fun x hx e => by subst e; rw [hm] at hx; simp at hx
  have M : ∀ x, (met.set first true).getD x false = if first = x then true else met.getD x false := fun x => by rw [getD_set]; simp [hul]
  have Mm : ∀ x, met.getD x false = true → (met.set first true).getD x false = true := fun x hx => by rw [M]; split <;> simp_all
  have Mt : ∀ x, (met.set first true).getD x false = true → x = first ∨ met.getD x false = true := fun x hx => by
    rw [M] at hx
    split at hx
    · left; rename_i e; exact e.symm
    · exact .inr hx
  refine ⟨by simp [h.lm], h.lo, ?_, ?_, ?_, by simp, ?_, ?_, ?_, ?_, ?_, ?_, ?_, ?_, ?_, ?_⟩
  · intro x hx
    obtain rfl : x = first := by simpa using hx
    exact hf
  · intro x hx
    obtain rfl : x = first := by simpa using hx
    rw [M, if_pos rfl]
  · intro x hx
    obtain rfl : x = first := by simpa using hx
    simp
  · intro a ha b hb
    obtain rfl : first = a := by simpa using ha
    obtain rfl : b = first := by simpa using hb
    omega
  · intro w hw hwm hwl x hx
    have hwu : w ≠ first := fun e => hwl (by simp [e])
    have hwm' : met.getD w false = true := (Mt w hwm).resolve_left hwu
    obtain ⟨h1, h2, h3⟩ := h.done w hw hwm' (by simp) x hx
    exact ⟨Mm x h1, by simp [hne x h1, hwu, h2], h3⟩
  · intro w hw hwm hwl hwf b hb
    have hwu : w ≠ first := fun e => hwl (by simp [e])
    have hwm' : met.getD w false = true := (Mt w hwm).resolve_left hwu
    have hwf' : lab w = first := by simpa [hwu] using hwf
    have := (h.lab_met w hw hwm').1
    rw [hwf', hm] at this
    simp at this
  · intro x k hx hxm hxk
    rcases Mt x hxm with rfl | hxm'
    · rw [h.zero x hm] at hxk; omega
    · obtain ⟨y, hy, hym, hyk⟩ := h.up x k hx hxm' hxk
      exact ⟨y, hy, Mm y hym, hyk⟩
  · intro x hx hxm
    rcases Mt x hxm with rfl | hxm'
    · simp [-List.getD_eq_getElem?_getD, h.zero x hm]
    · rw [if_neg (hne x hxm')]
      exact h.root x hx hxm'
  · intro x hx
    rw [M] at hx
    split at hx
    · simp at hx
    · exact h.zero x hx
  · intro x hx hxm
    rcases Mt x hxm with rfl | hxm'
    · simp
    · simpa [hne x hxm'] using h.lab_le x hx hxm'
  · intro x hx hxm
    rcases Mt x hxm with rfl | hxm'
    · simp [-List.getD_eq_getElem?_getD, M]
    · obtain ⟨h1, h2⟩ := h.lab_met x hx hxm'
      rw [if_neg (hne x hxm')]
      refine ⟨Mm _ h1, ?_⟩
      rw [if_neg (hne _ h1)]
      exact h2
  · intro x hx hxm c hc
    rcases Mt x hxm with rfl | hxm'
    · rw [if_pos rfl]
    · rw [if_neg (hne x hxm')]
      exact h.conn x hx hxm' c hc
  · intro w hw
    exact Mm w (h.below w hw)
theorem Bfs.init (N : Nat) (A : Nat → List Nat) : Bfs N A 0 (List.replicate N false) (List.replicate N 0) (fun _ => 0) [] := by
  have hf : ∀ x, (List.replicate N false).getD x false = false := fun x => by
    simp only [List.getD_eq_getElem?_getD, List.getElem?_replicate]; split <;> rfl
  refine ⟨by simp, by simp, by simp, by simp, by simp, by simp, by simp, ?_, by simp, ?_, ?_, ?_, ?_, ?_, ?_, fun w hw => by omega⟩
  · intro w hw hm; rw [hf] at hm; simp at hm
  · intro w k hw hm; rw [hf] at hm; simp at hm
  · intro w hw hm; rw [hf] at hm; simp at hm
  · intro v _
    simp only [List.getD_eq_getElem?_getD, List.getElem?_replicate]; split <;> rfl
  · intro w hw hm; rw [hf] at hm; simp at hm
  · intro w hw hm; rw [hf] at hm; simp at hm
  · intro w hw hm; rw [hf] at hm; simp at hm
/-- levels, and the least one that each hangs together with -/
structure Lev (N : Nat) (A : Nat → List Nat) (o : Nat → Nat) (lab : Nat → Nat) : Prop where
  edge : ∀ w, w < N → ∀ u ∈ A w, lab u = lab w ∧ o u ≤ o w + 1
  up : ∀ v k, v < N → o v = k + 1 → ∃ u ∈ A v, o u = k
  root : ∀ v, v < N → (o v = 0 ↔ lab v = v)
  le : ∀ v, v < N → lab v ≤ v
  idem : ∀ v, v < N → lab (lab v) = lab v
  conn : ∀ v, v < N → ∀ c, OnEdges N A c → c v = c (lab v)
theorem Bfs.lev {N : Nat} {A : Nat → List Nat} {met : List Bool} {out : List Nat} {lab : Nat → Nat} (h : Bfs N A N met out lab []) : Lev N A (fun v => out.getD v 0) lab where
  edge w hw u hu := (h.done w hw (h.below w hw) (by simp) u hu).2
  up v k hv hk := (h.up v k hv (h.below v hv) hk).imp fun u hu => ⟨hu.1, hu.2.2⟩
  root v hv := h.root v hv (h.below v hv)
  le v hv := h.lab_le v hv (h.below v hv)
  idem v hv := (h.lab_met v hv (h.below v hv)).2
  conn v hv := h.conn v hv (h.below v hv)
/-- how many were not met -/
def unmet (met : List Bool) : Nat := met.countP (fun b => !b)
theorem unmet_set {met : List Bool} {u : Nat} (hu : u < met.length) (h : met.getD u false = false) : unmet (met.set u true) + 1 = unmet met := by
  induction met generalizing u with
  | nil => simp at hu
  | cons b l ih =>
    cases u with
    | zero =>
      obtain rfl : b = false := by simpa using h
      simp [unmet]
    | succ u =>
      have := ih (u := u) (by simpa using hu) (by simpa using h)
      simp only [unmet, List.set_cons_succ, List.countP_cons] at *
      omega
end Fil
end
section
namespace Fil
def okE (n : Int) (e : E) : Prop := 0 ≤ e.1 ∧ e.1 < e.2.1 ∧ e.2.1 < n ∧ -2147483648 < e.2.2 ∧ e.2.2 < 2147483648
def ltE (a b : E) : Prop := a.1 < b.1 ∨ a.1 = b.1 ∧ a.2.1 < b.2.1
structure RightG (n : Int) (es : List E) : Prop where
  lo : 0 ≤ n
  hi : n ≤ 1048576
  many : es.length ≤ 4194304
  ok : ∀ e ∈ es, okE n e
  sorted : es.Pairwise ltE
theorem ltE_trans {a b c : E} (h : ltE a b) (h' : ltE b c) : ltE a c := by
  simp only [ltE] at *; omega
theorem orderK_lt {a b : E} : orderK a b ≠ 0 ∧ orderK a b ≠ 1 ↔ ltE a b := by
  simp only [orderK, cmpK, ltE]
  (repeat' split) <;> omega
theorem aloneK_ok {n : Int} {e : E} : aloneK n e.1 e.2.1 e.2.2 = 0 ∧ ¬ e.2.1 < e.1 ↔ okE n e := by
  simp only [aloneK, okE]
  (repeat' split) <;> omega
theorem scan_iff {n : Int} : ∀ (es : List E) (p : Option E), scan n p es = 0 ↔ (∀ e ∈ es, okE n e) ∧ es.Pairwise ltE ∧ ∀ q, p = some q → ∀ e, es.head? = some e → ltE q e
  | [], p => by simp [scan]
  | e :: r, p => by
    have ih := scan_iff (n := n) r (some e)
    have key : scan n p (e :: r) = 0 ↔ okE n e ∧ (∀ q, p = some q → ltE q e) ∧ scan n (some e) r = 0 := by
      rw [← aloneK_ok]
      cases p with
      | none =>
        simp only [scan]
        (repeat' split) <;> simp_all
      | some q =>
        simp only [scan, Option.some.injEq, forall_eq', ← orderK_lt]
        (repeat' split) <;> simp_all
    rw [key, ih]
    constructor
    · rintro ⟨h1, h2, h3, h4, h5⟩
      refine ⟨fun x hx => (List.mem_cons.1 hx).elim (fun h => h ▸ h1) (h3 x), List.pairwise_cons.2 ⟨?_, h4⟩, fun q hq e' he' => ?_⟩
      · cases r with
        | nil => simp
        | cons x r =>
          have hx := h5 e rfl x rfl
          intro y hy
          rcases List.mem_cons.1 hy with rfl | hy
          · exact hx
          · exact ltE_trans hx ((List.pairwise_cons.1 h4).1 y hy)
      · obtain rfl : e = e' := by simpa using he'
        exact h2 q hq
    · rintro ⟨h1, h2, h3⟩
      obtain ⟨h4, h5⟩ := List.pairwise_cons.1 h2
      refine ⟨h1 e (by simp), fun q hq => h3 q hq e rfl, fun x hx => h1 x (by simp [hx]), h5, fun q hq y hy => ?_⟩
      obtain rfl : e = q := by simpa using hq
      exact h4 y (List.mem_of_mem_head? hy)
theorem right_iff {n : Int} {es : List E} : rightK n es = 0 ↔ RightG n es := by
  have hs : sizesK n es.length = 0 ↔ 0 ≤ n ∧ n ≤ 1048576 ∧ es.length ≤ 4194304 := by
    simp only [sizesK]
    (repeat' split) <;> omega
  rw [rightK]
  split
  · rename_i h
    obtain ⟨h1, h2, h3⟩ := hs.1 h
    rw [scan_iff]
    exact ⟨fun ⟨a, b, _⟩ => ⟨h1, h2, h3, a, b⟩, fun h => ⟨h.ok, h.sorted, fun q hq => by simp at hq⟩⟩
  · rename_i h
    exact ⟨fun h' => absurd h' h, fun h' => absurd (hs.2 ⟨h'.lo, h'.hi, h'.many⟩) h⟩
/-- edges, by numbers of vertices -/
def tn (es : List E) : List (Nat × Nat) := es.map fun e => (e.1.toNat, e.2.1.toNat)
/-- next to u, as the edges come -/
def nb (l : List (Nat × Nat)) (u : Nat) : List Nat := l.filterMap fun e => if e.1 = u then some e.2 else if e.2 = u then some e.1 else none
def nears (N : Nat) (l : List (Nat × Nat)) : List (List Nat) := (List.range N).map (nb l)
def nearS (l : List (Nat × Nat)) (u : Nat) : List Nat := (nb l u).mergeSort fun x y => decide (x ≤ y)
theorem nb_snoc (l : List (Nat × Nat)) (e : Nat × Nat) (u : Nat) : nb (l ++ [e]) u = nb l u ++ (if e.1 = u then [e.2] else if e.2 = u then [e.1] else []) := by
  simp only [nb, List.filterMap_append, List.filterMap_cons, List.filterMap_nil]
  split <;> (try split) <;> simp_all <;> split <;> simp_all
/-- one edge more -/
theorem nears_snoc {N : Nat} {l : List (Nat × Nat)} {u v : Nat} (hu : u < N) (hv : v < N) (hne : u ≠ v) : nears N (l ++ [(u, v)]) = ((nears N l).set u (nb l u ++ [v])).set v (nb l v ++ [u]) := by
  apply List.ext_getElem?
  intro k
  simp only [nears, List.getElem?_set, List.getElem?_map, List.length_set, List.length_map, List.length_range]
  by_cases hk : k < N
  · rw [List.getElem?_eq_getElem (by simpa using hk)]
    simp only [List.getElem_range, Option.map_some, nb_snoc]
    by_cases h1 : u = k
    · subst h1
      simp [Ne.symm hne, hu]
    · by_cases h2 : v = k
      · subst h2
        simp [hv, h1]
      · simp [h1, h2]
  · rw [List.getElem?_eq_none (by simpa using hk)]
    have h1 : u ≠ k := by omega
    have h2 : v ≠ k := by omega
    simp [h1, h2]
theorem nb_length (l : List (Nat × Nat)) (u : Nat) : (nb l u).length ≤ l.length := List.length_filterMap_le _ _
theorem nears_get {N : Nat} {l : List (Nat × Nat)} {u : Nat} (hu : u < N) : (nears N l)[u]? = some (nb l u) := by simp [nears, hu]
theorem nears_zero (N : Nat) : nears N [] = List.replicate N [] := by
  have : nb [] = fun _ => [] := rfl
  rw [nears, this, List.map_const', List.length_range]
theorem tn_take {es : List E} {k : Nat} {e : E} (he : es[k]? = some e) : tn (es.take (k + 1)) = tn (es.take k) ++ [(e.1.toNat, e.2.1.toNat)] := by
  rw [List.take_add_one, he]; simp [tn]
/-- sorted up to i -/
def sorted (N : Nat) (l : List (Nat × Nat)) (i : Nat) : List (List Nat) := (List.range N).map fun u => if u < i then nearS l u else nb l u
theorem sorted_zero (N : Nat) (l : List (Nat × Nat)) : sorted N l 0 = nears N l := by simp [sorted, nears]
theorem sorted_all (N : Nat) (l : List (Nat × Nat)) : sorted N l N = (List.range N).map (nearS l) := by
  apply List.map_congr_left
  intro u hu
  rw [if_pos (by simpa using hu)]
theorem sorted_get {N i : Nat} {l : List (Nat × Nat)} (hi : i < N) : (sorted N l i)[i]? = some (nb l i) := by simp [sorted, hi]
theorem sorted_succ {N i : Nat} {l : List (Nat × Nat)} (hi : i < N) : sorted N l (i + 1) = (sorted N l i).set i (nearS l i) := by
  apply List.ext_getElem?
  intro k
  simp only [sorted, List.getElem?_set, List.getElem?_map, List.length_map, List.length_range]
  by_cases hk : k < N
  · rw [List.getElem?_eq_getElem (by simpa using hk)]
    simp only [List.getElem_range, Option.map_some]
    by_cases h1 : i = k
    · subst h1; simp [hi]
    · rw [if_neg h1]
      by_cases h2 : k < i
      · rw [if_pos (by omega), if_pos h2]
      · rw [if_neg (by omega), if_neg h2]
  · rw [List.getElem?_eq_none (by simpa using hk)]
    have : i ≠ k := by omega
    simp [this]
theorem mem_nb {l : List (Nat × Nat)} {u v : Nat} (hl : ∀ e ∈ l, e.1 ≠ e.2) : u ∈ nb l v ↔ (v, u) ∈ l ∨ (u, v) ∈ l := by
  simp only [nb, List.mem_filterMap]
  constructor
  · rintro ⟨⟨a, b⟩, he, h⟩
    dsimp only at h
    split at h
    · rename_i h1; subst h1
      obtain rfl : b = u := by simpa using h
      exact .inl he
    · split at h
      · rename_i h2; subst h2
        obtain rfl : a = u := by simpa using h
        exact .inr he
      · simp at h
  · rintro (h | h)
    · exact ⟨(v, u), h, by simp⟩
    · refine ⟨(u, v), h, ?_⟩
      have := hl _ h
      dsimp only at this ⊢
      rw [if_neg this, if_pos rfl]
theorem mem_nearS {l : List (Nat × Nat)} {u v : Nat} : u ∈ nearS l v ↔ u ∈ nb l v := by simp [nearS, List.mem_mergeSort]
structure Good (N : Nat) (l : List (Nat × Nat)) : Prop where
  lt : ∀ e ∈ l, e.1 < e.2 ∧ e.2 < N
theorem RightG.good {n : Int} {es : List E} (h : RightG n es) : Good n.toNat (tn es) where
  lt e he := by
    obtain ⟨x, hx, rfl⟩ := List.mem_map.1 he
    obtain ⟨h1, h2, h3, -, -⟩ := h.ok x hx
    have := h.lo
    dsimp only
    omega
theorem Good.adj {N : Nat} {l : List (Nat × Nat)} (h : Good N l) : Adj N (nb l) where
  lt v hv u hu := by
    rcases (mem_nb (fun e he => by have := h.lt e he; omega)).1 hu with hu | hu
    · exact (h.lt _ hu).2
    · have := h.lt _ hu; dsimp only at this; omega
  sym v u hv hu := by
    rw [mem_nb (fun e he => by have := h.lt e he; omega)] at hu ⊢
    exact hu.symm
end Fil
end
section
namespace Go.Proofs
open Go.Shelf
def Tryz.sortInts_ren : Go.Shelf.Ren := ⟨fun | 5 => 34 | 8 => 50 | 7 => 49 | 19 => 69 | 20 => 70 | 10 => 60 | 11 => 61 | 12 => 62 | 13 => 63 | 14 => 64 | 15 => 65 | 16 => 66 | 17 => 67 | 18 => 68 | 30 => 85 | 31 => 86 | 32 => 87 | 33 => 88 | 34 => 89 | 35 => 79 | 40 => 103 | n => n, fun | 23 => 41 | 25 => 3 | 3 => 3 | 32 => 85 | 22 => 41 | 0 => 0 | 44 => 107 | 46 => 109 | 4 => 4 | 36 => 99 | 35 => 98 | 41 => 104 | 5 => 5 | 9 => 9 | 53 => 120 | 57 => 124 | 63 => 133 | 64 => 134 | n => n, fun | n => n⟩
theorem Tryz.sortInts : Go.Proofs.SlLaysM.n5 Tryz.prog Tryz.sortInts_ren := {
  mixed := by kernel_rfl
  f5 := ⟨Tryz.f34.name, by decide, Tryz.func34.trans (congrArg some (by kernel_rfl))⟩
  f7 := ⟨Tryz.f49.name, by decide, Tryz.func49.trans (congrArg some (by kernel_rfl))⟩
  f8 := Tryz.func50.trans (congrArg some (by kernel_rfl))
  f10 := ⟨Tryz.f60.name, by decide, Tryz.func60.trans (congrArg some (by kernel_rfl))⟩
  f11 := ⟨Tryz.f61.name, by decide, Tryz.func61.trans (congrArg some (by kernel_rfl))⟩
  f12 := ⟨Tryz.f62.name, by decide, Tryz.func62.trans (congrArg some (by kernel_rfl))⟩
  f13 := ⟨Tryz.f63.name, by decide, Tryz.func63.trans (congrArg some (by kernel_rfl))⟩
  f14 := ⟨Tryz.f64.name, by decide, Tryz.func64.trans (congrArg some (by kernel_rfl))⟩
  f15 := ⟨Tryz.f65.name, by decide, Tryz.func65.trans (congrArg some (by kernel_rfl))⟩
  f16 := ⟨Tryz.f66.name, by decide, Tryz.func66.trans (congrArg some (by kernel_rfl))⟩
  f17 := ⟨Tryz.f67.name, by decide, Tryz.func67.trans (congrArg some (by kernel_rfl))⟩
  f18 := ⟨Tryz.f68.name, by decide, Tryz.func68.trans (congrArg some (by kernel_rfl))⟩
  f19 := Tryz.func69.trans (congrArg some (by kernel_rfl))
  f20 := Tryz.func70.trans (congrArg some (by kernel_rfl))
  f30 := ⟨Tryz.f85.name, by decide, Tryz.func85.trans (congrArg some (by kernel_rfl))⟩
  f31 := Tryz.func86.trans (congrArg some (by kernel_rfl))
  f32 := Tryz.func87.trans (congrArg some (by kernel_rfl))
  f33 := ⟨Tryz.f88.name, by decide, Tryz.func88.trans (congrArg some (by kernel_rfl))⟩
  f34 := ⟨Tryz.f89.name, by decide, Tryz.func89.trans (congrArg some (by kernel_rfl))⟩
  f35 := ⟨Tryz.f79.name, by decide, Tryz.func79.trans (congrArg some (by kernel_rfl))⟩
  f40 := ⟨Tryz.f103.name, by decide, Tryz.func103.trans (congrArg some (by kernel_rfl))⟩
  t0 := Tryz.underlying0
  a0 := Tryz.isAgg0
  z0 := Tryz.sizeOf0
  v0 := Tryz.zeroValue0
  t3 := Tryz.underlying3
  a3 := Tryz.isAgg3
  z3 := Tryz.sizeOf3
  v3 := Tryz.zeroValue3
  t4 := Tryz.underlying4
  a4 := Tryz.isAgg4
  z4 := Tryz.sizeOf4
  v4 := Tryz.zeroValue4
  t5 := Tryz.underlying5
  a5 := Tryz.isAgg5
  z5 := Tryz.sizeOf5
  v5 := Tryz.zeroValue5
  t9 := Tryz.underlying9
  a9 := Tryz.isAgg9
  z9 := Tryz.sizeOf9
  v9 := Tryz.zeroValue9
  t22 := Tryz.underlying41
  a22 := Tryz.isAgg41
  z22 := Tryz.sizeOf41
  v22 := Tryz.zeroValue41
  t23 := Tryz.underlying41
  a23 := Tryz.isAgg41
  z23 := Tryz.sizeOf41
  v23 := Tryz.zeroValue41
  t25 := Tryz.underlying3
  a25 := Tryz.isAgg3
  z25 := Tryz.sizeOf3
  v25 := Tryz.zeroValue3
  t32 := Tryz.underlying85
  a32 := Tryz.isAgg85
  z32 := Tryz.sizeOf85
  v32 := Tryz.zeroValue85
  t35 := Tryz.underlying98
  a35 := Tryz.isAgg98
  z35 := Tryz.sizeOf98
  v35 := Tryz.zeroValue98
  t36 := Tryz.underlying99
  a36 := Tryz.isAgg99
  z36 := Tryz.sizeOf99
  v36 := Tryz.zeroValue99
  t41 := Tryz.underlying104
  a41 := Tryz.isAgg104
  z41 := Tryz.sizeOf104
  v41 := Tryz.zeroValue104
  t44 := Tryz.underlying107
  a44 := Tryz.isAgg107
  z44 := Tryz.sizeOf107
  v44 := Tryz.zeroValue107
  t46 := Tryz.underlying109
  a46 := Tryz.isAgg109
  z46 := Tryz.sizeOf109
  v46 := Tryz.zeroValue109
  t53 := Tryz.underlying120
  a53 := Tryz.isAgg120
  z53 := Tryz.sizeOf120
  v53 := Tryz.zeroValue120
  t57 := Tryz.underlying124
  a57 := Tryz.isAgg124
  z57 := Tryz.sizeOf124
  v57 := Tryz.zeroValue124
  t63 := Tryz.underlying133
  a63 := Tryz.isAgg133
  z63 := Tryz.sizeOf133
  v63 := Tryz.zeroValue133
  t64 := Tryz.underlying134
  a64 := Tryz.isAgg134
  z64 := Tryz.sizeOf134
  v64 := Tryz.zeroValue134 }
end Go.Proofs
namespace Go.Sl
open Go Go.RowKit Go.Sort Go.Proofs
def iV (l : List Int) : List Value := l.map (Value.int .i64)
def nV (l : List Nat) : List Value := l.map fun (k : Nat) => .int .i64 (k : Int)
theorem putCells_take (cur : Array Value) (off : Nat) (ts : List Int) (h : off + ts.length ≤ cur.size) : ((putCells (Value.int .i64) off ts.toArray cur).toList.drop off).take ts.length = ts.map (Value.int .i64) := by
  apply List.ext_getElem?
  intro j
  by_cases hj : j < ts.length
  · rw [List.getElem?_take_of_lt hj, List.getElem?_drop, Array.getElem?_toList]
    simp [putCells, hj, show off + j < cur.size by omega]
  · rw [List.getElem?_take_eq_none (by omega), List.getElem?_eq_none (by simp; omega)]
theorem sort_row {w : World} {v : Value} {e : TypeId} {l : List Int} {S : FS} (h : (rowHP v e 1 l.length (iV l)).sat S w) (hlen : l.length < 4611686018427387904) :
    Calls Tryz.prog 34 #[v] w (Post w S fun r L' => r = .tuple #[] ∧ L' = [rowHP v e 1 l.length (iV (l.mergeSort fun x y => decide (x ≤ y)))]) := by
  rcases h.2 with ⟨rfl, h0⟩ | ⟨g, off, cap, cur, rfl, h2, h3, h4, h5, h6, h7⟩ | ⟨⟨a0, rfl⟩, h0⟩
  · have hl : l = [] := List.eq_nil_of_length_eq_zero h0
    subst hl
    have c := AnyM.slices_Sort_int_none Tryz.sortInts none 0 w
    change Calls Tryz.prog 34 _ _ _ at c
    refine Calls.mono c ?_
    rintro e' w' ⟨rfl, hw⟩
    subst hw
    refine ⟨_, _, ⟨rfl, rfl⟩, rfl, S, Mod.refl _ _, S, fun _ => False, fun _ h => h, fun _ h => h.elim, fun _ _ h => h, ?_, trivial⟩
    simpa [iV] using h
  · have hg := (Array.getElem?_eq_some_iff.1 h3).1
    have hH : Holds (Value.int .i64) w g off l.toArray := by
      intro j hj
      have hj' : j < l.length := by simpa using hj
      refine ⟨?_, by simp [World.frozen?, h3]⟩
      have h1 : ((cur.toList.drop off).take (l.length * 1))[j]? = (iV l)[j]? := by rw [h7]
      rw [List.getElem?_take_of_lt (by omega), List.getElem?_drop] at h1
      simp only [World.cell?, h3]
      simp only [Option.isSome_none, Bool.false_eq_true, if_false]
      rw [← Array.getElem?_toList, h1]
      simp [iV, hj']
    have c := AnyM.slices_Sort_int Tryz.sortInts g off cap l w hH hg hlen
    change Calls Tryz.prog 34 _ _ _ at c
    refine Calls.mono c ?_
    rintro e' w' ⟨rfl, n, os, rfl⟩
    refine ⟨_, _, ⟨rfl, rfl⟩, rfl, S, ⟨rfl, rfl, rfl, Nat.le_add_right _ _, by simp, fun k hk hS => ?_, fun k h => .inl h⟩, S, fun _ => False, fun _ h => h, fun _ h => h.elim, fun _ _ h => h, ?_, trivial⟩
    · rw [heap_grow_old _ _ (by simpa using hk)]
      have : g ≠ k := fun e => hS (by rw [← e]; exact h2)
      simp [putRow, mapBlock, Sort.ahead, Array.getElem?_modify, this]
    · have hlen' : (l.mergeSort fun x y => decide (x ≤ y)).length = l.length := List.length_mergeSort _
      refine ⟨by simp [iV], .inr (.inl ⟨g, off, cap, putCells (Value.int .i64) off (l.mergeSort fun x y => decide (x ≤ y)).toArray cur, rfl, h2, ?_, h4, h5, by simp [putCells, h6], ?_⟩)⟩
      · rw [heap_grow_old _ _ (by simpa using hg)]
        simp [putRow, mapBlock, Sort.ahead, Array.getElem?_modify, h3, onCells]
      · have := putCells_take cur off (l.mergeSort fun x y => decide (x ≤ y)) (by rw [hlen', h6]; omega)
        rw [hlen'] at this
        rw [Nat.mul_one]
        exact this
  · have hl : l = [] := List.eq_nil_of_length_eq_zero h0
    subst hl
    have c := AnyM.slices_Sort_int_none Tryz.sortInts (some a0) 0 w
    change Calls Tryz.prog 34 _ _ _ at c
    refine Calls.mono c ?_
    rintro e' w' ⟨rfl, hw⟩
    subst hw
    refine ⟨_, _, ⟨rfl, rfl⟩, rfl, S, Mod.refl _ _, S, fun _ => False, fun _ h => h, fun _ h => h.elim, fun _ _ h => h, ?_, trivial⟩
    simpa [iV] using h
theorem nat_sort (l : List Nat) : (l.map fun (k : Nat) => (k : Int)).mergeSort (fun x y => decide (x ≤ y)) = (l.mergeSort fun x y => decide (x ≤ y)).map fun (k : Nat) => (k : Int) := by
  exact (List.map_mergeSort (r := fun (x y : Nat) => decide (x ≤ y)) (s := fun (x y : Int) => decide (x ≤ y)) (f := fun (k : Nat) => (k : Int)) (fun a _ b _ => by simp)).symm
theorem nsort_row {w : World} {v : Value} {e : TypeId} {l : List Nat} {S : FS} (h : (rowHP v e 1 l.length (nV l)).sat S w) (hlen : l.length < 4611686018427387904) :
    Calls Tryz.prog 34 #[v] w (Post w S fun r L' => r = .tuple #[] ∧ L' = [rowHP v e 1 l.length (nV (l.mergeSort fun x y => decide (x ≤ y)))]) := by
  have e1 : ∀ l : List Nat, nV l = iV (l.map fun (k : Nat) => (k : Int)) := fun l => by simp [nV, iV]
  rw [e1] at h
  have := sort_row (l := l.map fun (k : Nat) => (k : Int)) (by simpa using h) (by simpa using hlen)
  rw [nat_sort, List.length_map] at this
  simpa only [e1] using this
end Go.Sl
end
section
namespace Go.Sl
open Go Go.RowKit
theorem made1 {z : Value} {z0 : Value} (hz : z.cells = #[z0]) (m : Nat) : (madeCells z.cells (m * 1)).toList = List.replicate m z0 := by
  rw [hz]
  apply List.ext_getElem?
  intro k
  simp only [madeCells, Nat.mul_one, Array.toList_map, Array.toList_range, List.getElem?_map, List.getElem?_replicate]
  by_cases hk : k < m
  · simp [hk, Nat.mod_one]
  · simp [hk]
def rowN (h : Value) (l : List Nat) : HP := rowHP h 3 1 l.length (nV l)
theorem rowN_snoc (h : Value) (l : List Nat) (x : Nat) : rowHP h 3 1 (l.length + 1) (nV l ++ [.int .i64 (x : Int)]) = rowN h (l ++ [x]) := by simp [rowN, nV]
end Go.Sl
namespace Go.Proofs.YtpajjnkmaebhcaaGreat
open Go.RowKit Go.Sl Fil
set_option maxRecDepth 100000
set_option maxHeartbeats 8000000
set_option linter.unusedVariables false
set_option linter.unusedSimpArgs false
attribute [local irreducible] Code.wp wpList bodyPost wpQuiet Exit.then Exit.inBlock Post wpAnyH wpOp
theorem Near_ok (n : Int) (v : Value) (es : List E) (w : World) (hs : Shp v es.length) (hr : RO w No v (esV es)) (hR : RightG n es) :
    Calls Tryz.prog 80 #[.agg #[.int .i64 n, v]] w (Post w No fun r L' => ∃ hs : List Value, hs.length = n.toNat ∧ L' = [rowHP r 41 1 n.toNat hs, starHP (kids rowN hs ((List.range n.toNat).map (nearS (tn es))))]) := by
  have hR0 := right_iff.2 hR
  have hm : es.length < 4611686018427387904 := by have := hR.many; omega
  refine enter0 (vs := [_]) Tryz.func80 rfl Tryz.ntmps80 rfl ?_
  repeat' first
    | refine k_then ?_ | refine c_seq ?_ | refine c_region ?_ | refine s_nil ?_ | refine s_assign (by exact rfl) (by exact rfl) ?_ | refine s_ldk_box (by exact rfl) (by exact rfl) (by exact .head _) (by exact rfl) (by exact rfl) ?_ | refine o_box (by exact rfl) (by exact rfl) (fun b => ?_)
  refine s_call (by exact rfl) (by exact rfl) (fun w h => Right_ok n v es w hs (ro_old h hr) hm) ?_
  repeat' first
    | refine k_then ?_ | refine c_seq ?_ | refine c_region ?_ | refine s_nil ?_ | refine s_fa (by exact rfl) (by exact rfl) ?_ | refine s_ld_box (by exact rfl) (by exact rfl) (by exact .head _) (by exact rfl) ?_ | refine s_neq (by exact rfl) (by exact rfl) (by exact rfl) ?_ | refine c_skip ?_ | (refine c_cond_p (by exact rfl) (fun h => ?_) (fun h => ?_) <;> try (exfalso; omega))
  have hlo := hR.lo
  have hhi := hR.hi
  refine o_make (by exact rfl) (by exact rfl) (by exact rfl) (by omega) (by omega) fun vo hvo => ?_
  rw [made1 rfl]
  repeat' first
    | refine k_then ?_ | refine c_seq ?_ | refine c_region ?_ | refine s_nil ?_ | refine s_move (by exact rfl) (by exact rfl) ?_ | refine s_assign (by exact rfl) (by exact rfl) ?_ | refine s_fa (by exact rfl) (by exact rfl) ?_ | refine s_ld_box (by exact rfl) (by exact rfl) (by exact .tail _ (.head _)) (by exact rfl) ?_ | refine s_len (by exact rfl) (by exact rfl) (by assumption) ?_ | refine c_block ?_
  refine c_nils 3 1 n.toNat ?_
  refine c_loop (fun x : Nat × List Value => x.1 ≤ es.length ∧ x.2.length = n.toNat) (fun x => [(3, vo), (15, v), (16, .int .i64 (es.length : Int)), (17, .int .i64 (x.1 : Int))]) (fun x => [rowHP vo 41 1 n.toNat x.2, starHP (kids rowN x.2 (nears n.toNat (tn (es.take x.1))))]) (fun x => es.length - x.1) (0, List.replicate n.toNat (.slice none 0 0)) [1, 0] ⟨by omega, by simp⟩ ?_ ⟨rfl, rfl, rfl, rfl, trivial⟩ ?_
  · show _ = some [_, starHP (kids rowN _ (nears n.toNat []))]
    rw [nears_zero, kids_nils]
    rfl
  rintro ⟨k, hs0⟩ ⟨hk, hl0⟩
  dsimp only at hk hl0 ⊢
  by_cases hlt : k < es.length
  · obtain ⟨e, he⟩ : ∃ e, es[k]? = some e := ⟨_, List.getElem?_eq_getElem hlt⟩
    have hE := esV_at he
    obtain ⟨q1, q2, q3, -, -⟩ := hR.ok e (List.mem_of_getElem? he)
    have hsn := nears_snoc (N := n.toNat) (l := tn (es.take k)) (u := e.1.toNat) (v := e.2.1.toNat) (by omega) (by omega) (by omega)
    rw [← tn_take he] at hsn
    generalize hls : nears n.toNat (tn (es.take k)) = ls at *
    have hb : ∀ u, (nb (tn (es.take k)) u).length ≤ 4194304 := fun u => by
      have := nb_length (tn (es.take k)) u
      have h2 := hR.many
      simp only [tn, List.length_map, List.length_take] at this
      simp only [tn] at this ⊢
      omega
    repeat' first
      | refine k_then ?_ | refine c_seq ?_ | refine c_region ?_ | refine s_nil ?_ | refine s_lss (by exact rfl) (by exact rfl) (by exact rfl) ?_ | refine s_idx (by exact rfl) (by exact rfl) (by exact rfl) (by assumption) (by first | assumption | omega) ?_ | refine s_ldk_ro (by exact rfl) (by exact rfl) (by assumption) (by decide) (by assumption) (by exact rfl) ?_ | refine o_alloc (by exact rfl) (fun b => ?_) | refine c_block ?_ | refine c_skip ?_ | (refine c_cond_p (by exact rfl) (fun h => ?_) (fun h => ?_) <;> try (exfalso; omega))
    refine o_stk_box (i := 0) (us := eV e) (by exact rfl) (by exact rfl) (by exact rfl) (by exact rfl) (by exact rfl) (by simp [eV, Value.oneCell']) (by simp [Value.cells]) ?_
    repeat' first
      | refine k_then ?_ | refine c_seq ?_ | refine s_nil ?_
    refine c_cut (fun hs1 : List Value => hs1.length = n.toNat) (fun _ => [(5, .pointer (some ⟨b, 0, none⟩)), (3, vo), (15, v), (16, .int .i64 (es.length : Int)), (17, .int .i64 (k : Int))]) (fun hs1 => [boxHP b 40 (eV e), rowHP vo 41 1 n.toNat hs1, starHP (kids rowN hs1 (ls.set e.1.toNat ((nb (tn (es.take k)) e.1.toNat) ++ [e.2.1.toNat])))]) ?_ fun hs1 hl1 => ?_
    · obtain ⟨hd, hhd⟩ : ∃ hd, hs0[e.1.toNat * 1]? = some hd := ⟨_, List.getElem?_eq_getElem (by omega)⟩
      have hkid : (ls)[e.1.toNat]? = some (nb (tn (es.take k)) e.1.toNat) := by rw [← hls]; exact nears_get (by omega)
      refine c_take 2 e.1.toNat (by exact rfl) (kids_get (by simpa using hhd) hkid) ?_
      refine p_begin [(0, true), (1, true), (2, true), (3, true), (4, true), (5, true), (6, true), (8, true), (9, true), .rd 7 10, (11, false), (12, true), (13, false)] [boxHP b 40 (eV e)] (by kernel_rfl) ?_
      repeat' first
        | (refine p_at (by exact rfl) ?_
           first
            | refine t_move (by exact rfl) (by exact rfl) (by exact fun _ h => h.pick [1] (by exact rfl)) ?_ | refine t_fa (by exact rfl) (by exact rfl) (by exact fun _ h => h.pick [1] (by exact rfl)) ?_ | refine t_ld_box (by exact rfl) (by exact rfl) (by exact .head _) (by exact rfl) (by exact fun _ h => h.pick [1] (by exact rfl)) ?_ | refine t_idxi (by exact rfl) (by exact rfl) (by exact rfl) (by assumption) (by first | assumption | omega) (by exact fun _ h => h.pick [1] (by exact rfl)) ?_)
      refine p_rd ?_ ?_
      all_goals
        repeat' first
          | (refine p_at (by exact rfl) ?_
             first
              | refine r_ld_row (by exact rfl) (by exact rfl) (by exact .tail _ (.tail _ (.head _))) (by assumption) (by exact fun _ h => h.pick [1] (by exact rfl)) ?_)
        refine p_mk [_] (by exact rfl) rfl (by exact rfl) rfl ?_ ?_ (by simp) (fun w A h => h.pick [2] (by exact rfl)) (fun sx hsx => ?_)
        · simp [Value.cells]
        · simp
        repeat' first
          | (refine p_at (by exact rfl) ?_
             first
              | refine r_ld_row (by exact rfl) (by exact rfl) (by exact .tail _ (.tail _ (.tail _ (.head _)))) (by assumption) (by exact fun _ h => h.pick [2] (by exact rfl)) ?_)
        refine p_append_row (j := 1) (by exact rfl) rfl (by exact rfl) (by exact rfl) (by exact rfl) (by exact .head _) (by exact rfl) (by simp [Value.cells, Value.oneCell']) ?_ (fun w v h => h.pick [2] (by exact rfl)) (fun vk hvk => ?_)
        · have := hb e.1.toNat
          simp only [List.length_cons, List.length_nil]
          omega
        repeat' first
          | (refine p_at (by exact rfl) ?_
             first
              | refine t_idxi (by exact rfl) (by exact rfl) (by exact rfl) (by assumption) (by first | assumption | omega) (by exact fun _ h => h.pick [2] (by exact rfl)) ?_)
        refine p_st_row (j := 3) (by exact rfl) (by exact rfl) (by exact rfl) (by exact rfl) hvk.one (by omega) (fun w h => h.pick [2] (by exact rfl)) ?_
        repeat' first
          | refine p_nil ?_
        refine c_pick [1, 1, 1, 1] (by exact rfl) ?_
        have e1 : rowHP vk 3 1 ((nb (tn (es.take k)) e.1.toNat).length + 1) (nV (nb (tn (es.take k)) e.1.toNat) ++ [Value.int .i64 e.2.1]) = rowN vk ((nb (tn (es.take k)) e.1.toNat) ++ [e.2.1.toNat]) := by
          rw [show (e.2.1 : Int) = ((e.2.1.toNat : Nat) : Int) from by omega]
          exact rowN_snoc _ _ _
        refine c_give 2 e.1.toNat (by exact rfl) (by simp [kids, hl0, ← hls, nears]; omega) ?_
        refine cut_end (hs0.set e.1.toNat vk) [0, 0, 0] ?_ ⟨rfl, rfl, rfl, rfl, rfl, trivial⟩ (by simpa using hl0)
        rw [← kids_set (x := empHP), ← e1, Nat.mul_one]
        rfl
    repeat' first
      | refine k_then ?_
    refine c_cut (fun hs1 : List Value => hs1.length = n.toNat) (fun _ => [(5, .pointer (some ⟨b, 0, none⟩)), (3, vo), (15, v), (16, .int .i64 (es.length : Int)), (17, .int .i64 (k : Int))]) (fun hs1 => [boxHP b 40 (eV e), rowHP vo 41 1 n.toNat hs1, starHP (kids rowN hs1 ((ls.set e.1.toNat ((nb (tn (es.take k)) e.1.toNat) ++ [e.2.1.toNat])).set e.2.1.toNat ((nb (tn (es.take k)) e.2.1.toNat) ++ [e.1.toNat])))]) ?_ fun hs2 hl2 => ?_
    · obtain ⟨hd, hhd⟩ : ∃ hd, hs1[e.2.1.toNat * 1]? = some hd := ⟨_, List.getElem?_eq_getElem (by omega)⟩
      have hkid : (ls.set e.1.toNat ((nb (tn (es.take k)) e.1.toNat) ++ [e.2.1.toNat]))[e.2.1.toNat]? = some (nb (tn (es.take k)) e.2.1.toNat) := by rw [List.getElem?_set_ne (by omega), ← hls]; exact nears_get (by omega)
      refine c_take 2 e.2.1.toNat (by exact rfl) (kids_get (by simpa using hhd) hkid) ?_
      refine p_begin [(0, true), (1, true), (2, true), (3, true), (4, true), (5, true), (6, true), (8, true), (9, true), .rd 7 10, (11, false), (12, true), (13, false)] [boxHP b 40 (eV e)] (by kernel_rfl) ?_
      repeat' first
        | (refine p_at (by exact rfl) ?_
           first
            | refine t_move (by exact rfl) (by exact rfl) (by exact fun _ h => h.pick [1] (by exact rfl)) ?_ | refine t_fa (by exact rfl) (by exact rfl) (by exact fun _ h => h.pick [1] (by exact rfl)) ?_ | refine t_ld_box (by exact rfl) (by exact rfl) (by exact .head _) (by exact rfl) (by exact fun _ h => h.pick [1] (by exact rfl)) ?_ | refine t_idxi (by exact rfl) (by exact rfl) (by exact rfl) (by assumption) (by first | assumption | omega) (by exact fun _ h => h.pick [1] (by exact rfl)) ?_)
      refine p_rd ?_ ?_
      all_goals
        repeat' first
          | (refine p_at (by exact rfl) ?_
             first
              | refine r_ld_row (by exact rfl) (by exact rfl) (by exact .tail _ (.tail _ (.head _))) (by assumption) (by exact fun _ h => h.pick [1] (by exact rfl)) ?_)
        refine p_mk [_] (by exact rfl) rfl (by exact rfl) rfl ?_ ?_ (by simp) (fun w A h => h.pick [2] (by exact rfl)) (fun sx hsx => ?_)
        · simp [Value.cells]
        · simp
        repeat' first
          | (refine p_at (by exact rfl) ?_
             first
              | refine r_ld_row (by exact rfl) (by exact rfl) (by exact .tail _ (.tail _ (.tail _ (.head _)))) (by assumption) (by exact fun _ h => h.pick [2] (by exact rfl)) ?_)
        refine p_append_row (j := 1) (by exact rfl) rfl (by exact rfl) (by exact rfl) (by exact rfl) (by exact .head _) (by exact rfl) (by simp [Value.cells, Value.oneCell']) ?_ (fun w v h => h.pick [2] (by exact rfl)) (fun vk hvk => ?_)
        · have := hb e.2.1.toNat
          simp only [List.length_cons, List.length_nil]
          omega
        repeat' first
          | (refine p_at (by exact rfl) ?_
             first
              | refine t_idxi (by exact rfl) (by exact rfl) (by exact rfl) (by assumption) (by first | assumption | omega) (by exact fun _ h => h.pick [2] (by exact rfl)) ?_)
        refine p_st_row (j := 3) (by exact rfl) (by exact rfl) (by exact rfl) (by exact rfl) hvk.one (by omega) (fun w h => h.pick [2] (by exact rfl)) ?_
        repeat' first
          | refine p_nil ?_
        refine c_pick [1, 1, 1, 1] (by exact rfl) ?_
        have e1 : rowHP vk 3 1 ((nb (tn (es.take k)) e.2.1.toNat).length + 1) (nV (nb (tn (es.take k)) e.2.1.toNat) ++ [Value.int .i64 e.1]) = rowN vk ((nb (tn (es.take k)) e.2.1.toNat) ++ [e.1.toNat]) := by
          rw [show (e.1 : Int) = ((e.1.toNat : Nat) : Int) from by omega]
          exact rowN_snoc _ _ _
        refine c_give 2 e.2.1.toNat (by exact rfl) (by simp [kids, hl1, ← hls, nears]; omega) ?_
        refine cut_end (hs1.set e.2.1.toNat vk) [0, 0, 0] ?_ ⟨rfl, rfl, rfl, rfl, rfl, trivial⟩ (by simpa using hl1)
        rw [← kids_set (x := empHP), ← e1, Nat.mul_one]
        rfl
    repeat' first
      | refine k_then ?_ | refine c_region ?_ | refine s_nil ?_ | refine s_move (by exact rfl) (by exact rfl) ?_ | refine s_add (by exact rfl) (by exact rfl) (by exact rfl) (by omega) ?_ | refine k_blk ?_
    refine c_round (k + 1, hs2) [1, 1] (by rw [hsn]; rfl) (by exact ⟨rfl, rfl, rfl, rfl, trivial⟩) ⟨by omega, hl2⟩ (by dsimp only; omega)
  · repeat' first
      | refine k_then ?_ | refine c_seq ?_ | refine c_region ?_ | refine s_nil ?_ | refine s_move (by exact rfl) (by exact rfl) ?_ | refine s_lss (by exact rfl) (by exact rfl) (by exact rfl) ?_ | refine s_len (by exact rfl) (by exact rfl) (by assumption) ?_ | refine c_block ?_ | refine c_exit ?_ | refine k_then_exit ?_ | refine k_blk_eq ?_ | (refine c_cond_p (by exact rfl) (fun h => ?_) (fun h => ?_) <;> try (exfalso; omega))
    have hkl : k = es.length := by omega
    subst hkl
    rw [List.take_length]
    refine c_loop (fun i : Nat => i ≤ n.toNat) (fun i => [(3, vo), (48, vo), (49, .int .i64 (n.toNat : Int)), (50, .int .i64 (i : Int))]) (fun i => [rowHP vo 41 1 n.toNat hs0, starHP (kids rowN hs0 (sorted n.toNat (tn es) i))]) (fun i => n.toNat - i) 0 [0, 0] (Nat.zero_le _) (by rw [sorted_zero]; rfl) ⟨rfl, rfl, rfl, rfl, trivial⟩ ?_
    intro i hi
    by_cases hlt2 : i < n.toNat
    · obtain ⟨hd, hhd⟩ : ∃ hd, hs0[i * 1]? = some hd := ⟨_, List.getElem?_eq_getElem (by omega)⟩
      have hk1 : (kids rowN hs0 (sorted n.toNat (tn es) i))[i]? = some (rowN hd (nb (tn es) i)) := kids_get (by simpa using hhd) (sorted_get hlt2)
      repeat' first
        | refine k_then ?_ | refine c_seq ?_ | refine c_region ?_ | refine s_nil ?_ | refine s_move (by exact rfl) (by exact rfl) ?_ | refine s_assign (by exact rfl) (by exact rfl) ?_ | refine s_lss (by exact rfl) (by exact rfl) (by exact rfl) ?_ | refine s_idx (by exact rfl) (by exact rfl) (by exact rfl) (by assumption) (by first | assumption | omega) ?_ | refine s_ld_row (by exact rfl) (by exact rfl) (by exact .head _) (by assumption) ?_ | refine c_block ?_ | refine c_skip ?_ | (refine c_cond_p (by exact rfl) (fun h => ?_) (fun h => ?_) <;> try (exfalso; omega))
      refine c_take 1 i (by exact rfl) hk1 ?_
      refine s_lend [rowN hd (nb (tn es) i)] _ (by exact rfl) (by exact rfl) (by exact rfl) (fun w S h => nsort_row (sats_mem h.own (.head _)) (by have := nb_length (tn es) i; have h2 := hR.many; simp only [tn, List.length_map] at this; simp only [tn]; omega)) ?_
      rintro _ _ ⟨rfl, rfl⟩
      repeat' first
        | refine k_then ?_ | refine c_region ?_ | refine s_nil ?_ | refine s_move (by exact rfl) (by exact rfl) ?_ | refine s_add (by exact rfl) (by exact rfl) (by exact rfl) (by omega) ?_ | refine k_blk ?_
      have e1 : rowHP hd 3 1 (nb (tn es) i).length (nV ((nb (tn es) i).mergeSort fun x y => decide (x ≤ y))) = rowN hd (nearS (tn es) i) := by
        simp [rowN, nearS]
      refine c_give (L := [_, _]) 1 i (by exact rfl) (by rw [List.length_set, kids_length (by simp [sorted, hl0])]; simpa [sorted] using hlt2) ?_
      refine c_round (i + 1) [0, 0] ?_ (by exact ⟨rfl, rfl, rfl, rfl, trivial⟩) (by omega) (by omega)
      rw [sorted_succ hlt2, ← kids_set2 (x := empHP) (by simpa using hhd), ← e1]
      rfl
    · repeat' first
        | refine k_then ?_ | refine c_seq ?_ | refine c_region ?_ | refine s_nil ?_ | refine s_move (by exact rfl) (by exact rfl) ?_ | refine s_assign (by exact rfl) (by exact rfl) ?_ | refine s_lss (by exact rfl) (by exact rfl) (by exact rfl) ?_ | refine c_exit ?_ | refine c_ret ?_ | refine k_then_exit ?_ | refine k_blk_eq ?_ | (refine c_cond_p (by exact rfl) (fun h => ?_) (fun h => ?_) <;> try (exfalso; omega))
      obtain rfl : i = n.toNat := by omega
      refine ret1 [0, 0] rfl rfl rfl ⟨hs0, hl0, ?_⟩
      rw [sorted_all]
end Go.Proofs.YtpajjnkmaebhcaaGreat
end
section
namespace Go.Sl
open Go Go.RowKit
def bV (l : List Bool) : List Value := l.map Value.bool
theorem bV_get {l : List Bool} {k : Nat} (h : k < l.length) : (bV l)[k * 1]? = some (.bool (l.getD k false)) := by
  simp [bV, h]
theorem nV_get {l : List Nat} {k : Nat} (h : k < l.length) : (nV l)[k * 1]? = some (.int .i64 ((l.getD k 0 : Nat) : Int)) := by
  simp [nV, h]
theorem bV_set (l : List Bool) (k : Nat) (b : Bool) : (bV l).set (k * 1) (.bool b) = bV (l.set k b) := by simp [bV, List.map_set]
theorem nV_set (l : List Nat) (k x : Nat) : (nV l).set (k * 1) (.int .i64 (x : Int)) = nV (l.set k x) := by simp [nV, List.map_set]
theorem iV_get {l : List Int} {k : Nat} (h : k < l.length) : (iV l)[k * 1]? = some (.int .i64 (l.getD k 0)) := by
  simp [iV, h]
theorem nV_iV (l : List Nat) : nV l = iV (l.map fun (k : Nat) => (k : Int)) := by simp [nV, iV]
theorem iV_one (l : List Int) : ∀ u ∈ iV l, u.oneCell' = true := fun u hu => by
  obtain ⟨a, _, rfl⟩ := List.mem_map.1 hu
  rfl
end Go.Sl
namespace Go.Proofs.YtpajjnkmaebhcaaGreat
open Go.RowKit Go.Sl Fil
theorem esV_snoc (l : List E) (e : E) : esV (l ++ [e]) = esV l ++ eV e := by simp [esV, List.flatMap_append]
end Go.Proofs.YtpajjnkmaebhcaaGreat
end
section
namespace Go.Sl
open Go.RowKit
section
variable {P : Program} {w0 : World} {S0 : FS} {n : Nat} {F : List (Nat × Value)} {L : List HP} {rest : List Oper} {ops : Array Oper} {Q : Exit → Act → World → Prop} {d i : Nat} {v : Value} {ty : TypeId} {ps : String} {af : Array Edge} {o : Oper} {x : Operand} {t t' e : TypeId} {z : Value} {sz bytes : Nat}
def nilB (v : Value) : Bool := match v with
  | .slice none _ _ => true
  | _ => false
theorem run_eqnil {m : Nat} (h : P.underlying t = some (.slice e)) (hs : Shp v m) (w : World) : (binOp .eql t v (.slice none 0 0)).run P w = .ok (.bool (nilB v)) w := by
  rcases hs.2 with ⟨rfl, _⟩ | ⟨g, off, cap, rfl, _⟩ | ⟨⟨a0, rfl⟩, _⟩
  all_goals
    simp only [binOp]
    simp [run_equal_slice_nil w t e _ _ _ h, nilB]
theorem s_eqnil {m : Nat} [T : SlTy P t e z sz bytes] (hn : Nat.blt d n = true) (hx : ev F x = some v) (hs : Shp v m) (h : Reach w0 S0 n ((d, .bool (nilB v)) :: F) L (wpList P ops Q rest)) : Reach w0 S0 n F L (wpList P ops Q (⟨some d, .binOp .eql t x (.const (.slice none 0 0)) t', ty, ps, af, none⟩ :: rest)) :=
  s_q rfl rfl hn (q_of_pure fun a hf w => by
    have := run_eqnil T.u hs w
    rcases hs.2 with ⟨rfl, _⟩ | ⟨g, off, cap, rfl, _⟩ | ⟨⟨a0, rfl⟩, _⟩ <;> (have he := hf.eval hx; have hc : ∀ u, a.eval (Operand.const u) = u := fun _ => rfl; simp [execOp, he, eqGuard, hc, this])).q h
end
end Go.Sl
namespace Go.Proofs.YtpajjnkmaebhcaaGreat
open Go.RowKit Go.Sl Fil
set_option maxRecDepth 100000
set_option maxHeartbeats 8000000
set_option linter.unusedVariables false
set_option linter.unusedSimpArgs false
attribute [local irreducible] Code.wp wpList bodyPost wpQuiet Exit.then Exit.inBlock Post wpAnyH wpOp
theorem CloneI_ok (v : Value) (l : List Int) (w : World) (hs : Shp v l.length) (hr : RO w No v (iV l)) (hl : l.length ≤ 1048576) :
    Calls Tryz.prog 17 #[v] w (Post w No fun r L' => L' = [rowHP r 3 1 l.length (iV l)]) := by
  refine enter0 (vs := [_]) Tryz.func17 rfl Tryz.ntmps17 rfl ?_
  repeat' first
    | refine k_then ?_ | refine c_seq ?_ | refine c_region ?_ | refine s_nil ?_ | refine s_move (by exact rfl) (by exact rfl) ?_ | refine s_assign (by exact rfl) (by exact rfl) ?_
  refine s_eqnil (by exact rfl) (by exact rfl) hs ?_
  have hnn : (v = .slice none 0 0 ∧ l.length = 0) ∨ ∃ a0 m0 c0, v = .slice (some a0) m0 c0 := by
    rcases hs.2 with h | ⟨g, off, cap, h1, _⟩ | ⟨⟨a0, h1⟩, _⟩
    · exact .inl h
    · exact .inr ⟨_, _, _, h1⟩
    · exact .inr ⟨_, _, _, h1⟩
  rcases hnn with ⟨h1, h2⟩ | ⟨a0, m0, c0, h1⟩
  · rw [show nilB v = true by rw [h1]; rfl]
    obtain rfl : l = [] := List.eq_nil_of_length_eq_zero h2
    repeat' first
      | refine k_then ?_ | refine c_seq ?_ | refine c_region ?_ | refine s_nil ?_ | refine s_assign (by exact rfl) (by exact rfl) ?_ | refine c_ret ?_ | refine k_then_ret ?_ | refine c_cond_t (by exact rfl) ?_
    refine c_nil 3 1 ?_
    refine ret1 [0] rfl rfl rfl rfl
  · rw [show nilB v = false by rw [h1]; rfl]
    repeat' first
      | refine k_then ?_ | refine c_seq ?_ | refine c_region ?_ | refine s_nil ?_ | refine c_skip ?_ | refine c_cond_f (by exact rfl) ?_
    refine o_mk0 (by exact rfl) fun v0 hv0 => ?_
    repeat' first
      | refine s_move (by exact rfl) (by exact rfl) ?_
    refine o_append_ro (bytes := 8) (i := 0) (by exact rfl) (by exact rfl) (by exact rfl) (by exact rfl) hr hs (by simp [iV]) (iV_one _) (by omega) fun v1 hv1 => ?_
    repeat' first
      | refine k_then ?_ | refine s_nil ?_ | refine s_assign (by exact rfl) (by exact rfl) ?_ | refine c_ret ?_
    refine ret1 [0] rfl rfl rfl ?_
    rw [Nat.zero_add]; rfl
end Go.Proofs.YtpajjnkmaebhcaaGreat
end
section
namespace Fil
def fillL {α : Type} (g : Nat → α) (d : α) (N i : Nat) : List α := (List.range N).map fun j => if j < i then g j else d
theorem fill_zero {α : Type} (g : Nat → α) (d : α) (N : Nat) : fillL g d N 0 = List.replicate N d := by
  simp [fillL, List.map_const']
theorem fillL_all {α : Type} (g : Nat → α) (d : α) (N : Nat) : fillL g d N N = (List.range N).map g := by
  apply List.map_congr_left
  intro u hu
  rw [if_pos (by simpa using hu)]
theorem fill_set {α : Type} (g : Nat → α) (d : α) {N i : Nat} (hi : i < N) : (fillL g d N i).set i (g i) = fillL g d N (i + 1) := by
  apply List.ext_getElem?
  intro k
  simp only [fillL, List.getElem?_set, List.getElem?_map, List.length_map, List.length_range]
  by_cases hk : k < N
  · rw [List.getElem?_eq_getElem (by simpa using hk)]
    simp only [List.getElem_range, Option.map_some]
    by_cases h1 : i = k
    · subst h1; simp [hi]
    · rw [if_neg h1]
      by_cases h2 : k < i
      · rw [if_pos h2, if_pos (by omega)]
      · rw [if_neg h2, if_neg (by omega)]
  · rw [List.getElem?_eq_none (by simpa using hk)]
    have : i ≠ k := by omega
    simp [this]
theorem countP_lt {α : Type} {p q : α → Bool} (hpq : ∀ x, p x = true → q x = true) : ∀ {l : List α} {x : α}, x ∈ l → p x = false → q x = true → l.countP p + 1 ≤ l.countP q
  | y :: l, x, hx, h1, h2 => by
    have mono : l.countP p ≤ l.countP q := List.countP_mono_left fun x _ h => hpq x h
    simp only [List.countP_cons]
    rcases List.mem_cons.1 hx with rfl | hx
    · rw [h1, h2]; simp; omega
    · have ih := countP_lt hpq hx h1 h2
      have : (if p y = true then 1 else 0) ≤ (if q y = true then 1 else 0) := by
        split
        · rename_i h; rw [if_pos (hpq y h)]; exact Nat.le_refl _
        · exact Nat.zero_le _
      omega
theorem Lev.lt {N : Nat} {A : Nat → List Nat} {o lab : Nat → Nat} (hA : Adj N A) (h : Lev N A o lab) : ∀ v, v < N → o v < N := by
  have down : ∀ k v, v < N → o v = k → ∀ j, j ≤ k → ∃ u, u < N ∧ o u = j := by
    intro k
    induction k with
    | zero => intro v hv hk j hj; exact ⟨v, hv, by omega⟩
    | succ k ih =>
      intro v hv hk j hj
      by_cases e : j = k + 1
      · exact ⟨v, hv, by omega⟩
      · obtain ⟨u, hu, hk'⟩ := h.up v k hv hk
        exact ih u (hA.lt v hv u hu) hk' j (by omega)
  intro v hv
  have cnt : ∀ j, j ≤ o v + 1 → j ≤ (List.range N).countP fun u => decide (o u < j) := by
    intro j
    induction j with
    | zero => intro _; exact Nat.zero_le _
    | succ j ih =>
      intro hj
      obtain ⟨u, hu, hoj⟩ := down (o v) v hv rfl j (by omega)
      have := countP_lt (p := fun u => decide (o u < j)) (q := fun u => decide (o u < j + 1)) (fun x hx => by simp at hx ⊢; omega) (List.mem_range.2 hu) (by simp [hoj]) (by simp [hoj])
      have := ih (by omega)
      omega
  have h1 := cnt (o v + 1) (Nat.le_refl _)
  have h2 := List.countP_le_length (l := List.range N) (p := fun u => decide (o u < o v + 1))
  rw [List.length_range] at h2
  omega
end Fil
end
section
set_option linter.unusedVariables false
namespace Fil
end Fil
end
section
namespace Go.Proofs.YtpajjnkmaebhcaaGreat
open Go.RowKit Go.Sl Fil
set_option maxRecDepth 100000
set_option maxHeartbeats 8000000
set_option linter.unusedVariables false
set_option linter.unusedSimpArgs false
attribute [local irreducible] Code.wp wpList bodyPost wpQuiet Exit.then Exit.inBlock Post wpAnyH wpOp
theorem values1I_ok (b : Nat) (v : Value) (xs : List Int) (w : World) (S : FS) (hb : RB w S b 41 [v]) (hs : Shp v xs.length) (hr : RO w S v (iV xs)) :
    IterOK Tryz.prog 94 [.pointer (some ⟨b, 0, none⟩)] xs.length (fun i => [.int .i64 (xs.getD i 0)]) w S := by
  intro l LL hy M hM hsat
  have hm := hs.1
  simp only [maxLen] at hm
  refine enter (vs := [_, _]) Tryz.func94 rfl Tryz.ntmps94 rfl hsat ?_
  repeat' first
    | refine k_then ?_ | refine c_seq ?_ | refine c_region ?_ | refine s_nil ?_ | refine s_move (by exact rfl) (by exact rfl) ?_ | refine s_len (by exact rfl) (by exact rfl) (by assumption) ?_ | refine s_ld_rb (by exact rfl) (by exact rfl) (by assumption) (by exact rfl) ?_ | refine c_block ?_
  refine c_loop (fun x : Nat × List HP => x.1 ≤ xs.length ∧ LL x.1 x.2) (fun x => [(0, .func (.yield l) #[] #[]), (5, v), (6, .int .i64 (xs.length : Int)), (7, .int .i64 (x.1 : Int))]) (fun x => x.2) (fun x => xs.length - x.1) (0, M) (List.replicate M.length 0) ⟨by simp, hM⟩ (pick_id M) ⟨rfl, rfl, rfl, rfl, trivial⟩ ?_
  clear hM hsat
  rintro ⟨i, M⟩ ⟨hi, hM⟩
  dsimp only at hi hM ⊢
  by_cases hil : i < xs.length
  · have hci := iV_get hil
    generalize hreg : Code.region 3 _ _ = creg
    repeat' first
      | refine k_then ?_ | refine c_seq ?_ | refine c_region ?_ | refine s_nil ?_ | refine s_assign (by exact rfl) (by exact rfl) ?_ | refine s_lss (by exact rfl) (by exact rfl) (by exact rfl) ?_ | refine s_idx (by exact rfl) (by exact rfl) (by exact rfl) (by assumption) (by first | assumption | omega) ?_ | refine s_ld_ro (by exact rfl) (by exact rfl) (by assumption) (by assumption) ?_ | refine c_block ?_ | refine c_skip ?_ | (refine c_cond_p (by exact rfl) (fun h => ?_) (fun h => ?_) <;> try (exfalso; omega))
    subst hreg
    refine c_region_k 2 (by exact rfl) ?_
    simp only [List.take_succ_cons, List.take_zero, List.drop_succ_cons, List.drop_zero]
    repeat' first
      | refine k_then ?_ | refine s_nil ?_ | refine s_move (by exact rfl) (by exact rfl) ?_
    refine y_yield (K := LL (i + 1)) (by exact rfl) rfl (vs := [.int .i64 (xs.getD i 0)]) (by exact rfl) (fun W S' hm hs => hy i M W S' hil hM hm hs) fun M' hM' => ?_
    refine y_rest (by exact rfl) ?_
    repeat' first
      | refine k_then ?_ | refine c_region ?_ | refine s_nil ?_ | refine s_move (by exact rfl) (by exact rfl) ?_ | refine s_add (by exact rfl) (by exact rfl) (by exact rfl) (by omega) ?_ | refine s_not (by exact rfl) (by exact rfl) ?_ | refine c_skip ?_ | refine k_blk ?_ | refine c_cond_f (by exact rfl) ?_
    refine c_round (i + 1, M') (List.replicate M'.length 0) (pick_id M') ⟨rfl, rfl, rfl, rfl, trivial⟩ ⟨by dsimp only; omega, hM'⟩ (by dsimp only; omega)
  · repeat' first
      | refine k_then ?_ | refine c_seq ?_ | refine c_region ?_ | refine s_nil ?_ | refine s_lss (by exact rfl) (by exact rfl) (by exact rfl) ?_ | refine c_exit ?_ | refine k_then_exit ?_ | refine k_blk_eq ?_ | (refine c_cond_p (by exact rfl) (fun h => ?_) (fun h => ?_) <;> try (exfalso; omega))
    obtain rfl : i = xs.length := by omega
    refine ret0 (List.replicate M.length 0) rfl (pick_id M) hM
theorem appendSeqI_ok (it : FuncId) (caps : List Value) (xs : List Int) (w : World) [FnTy Tryz.prog it] (hN : xs.length ≤ 1048576)
    (hit : ∀ w' S' Sf, Mod w No w' Sf → (∀ k, S' k → Sf k) → IterOK Tryz.prog it caps xs.length (fun i => [.int .i64 (xs.getD i 0)]) w' S') :
    Calls Tryz.prog 105 #[.slice none 0 0, .func (.func it) #[] caps.toArray] w (Post w No fun r L' => L' = [rowHP r 3 1 xs.length (iV xs)]) := by
  refine enterM0 (vs := [_, _]) Tryz.func105 rfl Tryz.ntmps105 rfl ?_
  generalize hrest : Code.rangeFunc _ _ _ _ = crange
  repeat' first
    | refine k_then ?_ | refine c_seq ?_ | refine c_region ?_ | refine s_nil ?_ | refine s_move (by exact rfl) (by exact rfl) ?_ | refine s_assign (by exact rfl) (by exact rfl) ?_ | refine o_box (by exact rfl) (by exact rfl) (fun b => ?_) | refine c_block ?_
  subst hrest
  refine c_nil 3 1 ?_
  refine c_range (ps := [7]) it caps _ [] xs.length (fun i => [.int .i64 (xs.getD i 0)]) (fun i M => i ≤ xs.length ∧ ∃ vi, M = [rowHP vi 3 1 i (iV (xs.take i)), boxHP b 41 [vi]]) (List.append_nil _).symm (by exact rfl) (by exact rfl) (fun _ => rfl) (fun w' S' M h => by
    obtain ⟨Sf, hm, hS⟩ := h.old
    exact hit w' S' Sf hm hS) ⟨Nat.zero_le _, .slice none 0 0, rfl⟩ ?_ ?_
  · rintro i _ _ W S' l D r m hi ⟨_, vi, rfl⟩ rfl hlent hst
    obtain ⟨x, hx⟩ : ∃ x, xs[i]? = some x := ⟨_, List.getElem?_eq_getElem hi⟩
    have hg : xs.getD i 0 = x := by rw [List.getD_eq_getElem?_getD, hx]; rfl
    have htk : xs.take (i + 1) = xs.take i ++ [x] := by rw [List.take_add_one, hx]; rfl
    rw [hg]
    simp only [List.zip_cons_cons, List.zip_nil_left, List.reverse_cons, List.reverse_nil, List.nil_append, List.cons_append]
    refine x_region (by exact rfl) ?_
    repeat' first
      | refine k_then ?_ | refine s_nil ?_ | refine s_assign (by exact rfl) (by exact rfl) ?_
    refine r_begin (j := 0) rfl hst ?_
    refine x_block ?_
    refine x_region (by exact rfl) ?_
    repeat' first
      | refine s_move (by exact rfl) (by exact rfl) ?_ | refine s_ld_box (by exact rfl) (by exact rfl) (by exact .tail _ (.tail _ (.tail _ (.head _)))) (by exact rfl) ?_
    refine o_mk [.int .i64 x] (by exact rfl) (by exact rfl) rfl (by simp [Value.cells]) (by simp) (by simp) fun vt hvt => ?_
    skip
    refine o_append_row (bytes := 8) (i := 3) (by exact rfl) (by exact rfl) (by exact rfl) (by exact rfl) (by exact .head _) (by exact rfl) (by simp [Value.cells, Value.oneCell']) (by omega) fun v3 hv3 => ?_
    skip
    refine o_st_box (i := 4) (by exact rfl) (by exact rfl) (by exact rfl) hv3.one (by simp) ?_
    repeat' first
      | refine s_nil ?_ | refine k_blk ?_
    refine r_end (j := 1) [1, 1, 1, 1] rfl rfl fun W2 h2 => ⟨rfl, ?_⟩
    obtain ⟨S2, hm2, hl2⟩ := h2
    refine ⟨_, S2, ⟨_, ⟨by omega, v3, rfl⟩, rfl⟩, hm2, ?_⟩
    rw [htk, show iV (xs.take i ++ [x]) = iV (xs.take i) ++ [.int .i64 x] by simp [iV]]
    exact hl2
  · rintro _ l D r ⟨_, vi, rfl⟩
    refine know_row (v := vi) (.tail _ (.tail _ (.head _))) fun hvi _ => ?_
    refine m_blk ?_
    refine m_then ?_
    refine m_seq ?_
    refine m_region (by exact rfl) ?_
    repeat' first
      | refine s_nil ?_ | refine s_assign (by exact rfl) (by exact rfl) ?_ | refine s_ld_box (by exact rfl) (by exact rfl) (by exact .tail _ (.tail _ (.tail _ (.head _)))) (by exact rfl) ?_
    refine m_then ?_
    refine m_ret ?_
    refine m_end (j := 1) rfl ?_
    refine ret1 [2] rfl rfl rfl ?_
    rw [List.take_length]
theorem Values_ok (v : Value) (w : World) (hv : v.oneCell' = true) : Calls Tryz.prog 83 #[v] w (Post w No fun r L' => ∃ b, r = .func (.func 94) #[] #[.pointer (some ⟨b, 0, none⟩)] ∧ L' = [boxHP b 41 [v]]) := by
  refine enter0 (vs := [_]) Tryz.func83 rfl Tryz.ntmps83 rfl ?_
  repeat' first
    | refine k_then ?_ | refine c_seq ?_ | refine c_region ?_ | refine s_nil ?_ | refine s_assign (by exact rfl) (by exact rfl) ?_ | refine o_box (by exact rfl) (by exact rfl) (fun b => ?_)
  refine o_mkf [] [.pointer (some ⟨b, 0, none⟩)] (by exact rfl) (by exact rfl) (by exact rfl) ?_
  repeat' first
    | refine k_then ?_ | refine s_nil ?_ | refine s_assign (by exact rfl) (by exact rfl) ?_ | refine c_ret ?_
  rw [one_cells hv]
  refine ret1 [0] rfl rfl rfl ⟨b, rfl, rfl⟩
theorem CollectI_ok (it : FuncId) (caps : List Value) (xs : List Int) (w : World) [FnTy Tryz.prog it] (hN : xs.length ≤ 1048576)
    (hit : ∀ w' S' Sf, Mod w No w' Sf → (∀ k, S' k → Sf k) → IterOK Tryz.prog it caps xs.length (fun i => [.int .i64 (xs.getD i 0)]) w' S') :
    Calls Tryz.prog 93 #[.func (.func it) #[] caps.toArray] w (Post w No fun r L' => L' = [rowHP r 3 1 xs.length (iV xs)]) := by
  refine enter0 (vs := [_]) Tryz.func93 rfl Tryz.ntmps93 rfl ?_
  repeat' first
    | refine k_then ?_ | refine c_seq ?_ | refine c_region ?_ | refine s_nil ?_ | refine s_move (by exact rfl) (by exact rfl) ?_ | refine s_assign (by exact rfl) (by exact rfl) ?_
  refine o_call (by exact rfl) (by exact rfl) (fun w1 h => appendSeqI_ok it caps xs w1 hN fun w' S' Sf hm hS => h.mod0.elim fun S1 hm1 => hit w' S' _ (mod_trans0 hm1 hm) fun k hk => .inr (hS k hk)) ?_
  rintro vo _ rfl
  repeat' first
    | refine k_then ?_ | refine s_nil ?_ | refine s_assign (by exact rfl) (by exact rfl) ?_ | refine c_ret ?_
  refine ret1 [0] rfl rfl rfl rfl
theorem SortedI_ok (it : FuncId) (caps : List Value) (xs : List Int) (w : World) [FnTy Tryz.prog it] (hN : xs.length ≤ 1048576)
    (hit : ∀ w' S' Sf, Mod w No w' Sf → (∀ k, S' k → Sf k) → IterOK Tryz.prog it caps xs.length (fun i => [.int .i64 (xs.getD i 0)]) w' S') :
    Calls Tryz.prog 82 #[.func (.func it) #[] caps.toArray] w (Post w No fun r L' => L' = [rowHP r 3 1 xs.length (iV (xs.mergeSort fun x y => decide (x ≤ y)))]) := by
  refine enter0 (vs := [_]) Tryz.func82 rfl Tryz.ntmps82 rfl ?_
  repeat' first
    | refine k_then ?_ | refine c_seq ?_ | refine c_region ?_ | refine s_nil ?_ | refine s_move (by exact rfl) (by exact rfl) ?_ | refine s_assign (by exact rfl) (by exact rfl) ?_
  refine o_call (by exact rfl) (by exact rfl) (fun w1 h => CollectI_ok it caps xs w1 hN fun w' S' Sf hm hS => h.mod0.elim fun S1 hm1 => hit w' S' _ (mod_trans0 hm1 hm) fun k hk => .inr (hS k hk)) ?_
  rintro vo _ rfl
  repeat' first
    | refine k_then ?_ | refine c_seq ?_ | refine c_region ?_ | refine s_nil ?_ | refine s_move (by exact rfl) (by exact rfl) ?_ | refine s_assign (by exact rfl) (by exact rfl) ?_
  refine s_lend [rowHP vo 3 1 xs.length (iV xs)] _ (by exact rfl) (by exact rfl) (by exact rfl) (fun w S h => sort_row (sats_mem h.own (.head _)) (by omega)) ?_
  rintro _ _ ⟨rfl, rfl⟩
  repeat' first
    | refine k_then ?_ | refine c_seq ?_ | refine c_region ?_ | refine s_nil ?_ | refine s_move (by exact rfl) (by exact rfl) ?_ | refine s_assign (by exact rfl) (by exact rfl) ?_ | refine c_ret ?_
  refine ret1 [0] rfl rfl rfl rfl
end Go.Proofs.YtpajjnkmaebhcaaGreat
end
section
namespace Go.Proofs.YtpajjnkmaebhcaaGreat
open Go.RowKit Go.Sl Fil
set_option maxRecDepth 100000
set_option maxHeartbeats 8000000
set_option linter.unusedVariables false
set_option linter.unusedSimpArgs false
attribute [local irreducible] Code.wp wpList bodyPost wpQuiet Exit.then Exit.inBlock Post wpAnyH wpOp
theorem esV_get {es : List E} {k : Nat} {e : E} (h : es[k]? = some e) : (esV es)[k * 3 + 0]? = some (.int .i64 e.1) ∧ (esV es)[k * 3 + 1]? = some (.int .i64 e.2.1) ∧ (esV es)[k * 3 + 2]? = some (.int .i64 e.2.2) := by
  have h1 := esV_at h
  have key : ∀ j, j < 3 → (esV es)[k * 3 + j]? = (eV e)[j]? := fun j hj => by
    rw [← h1, List.getElem?_take, if_pos hj, List.getElem?_drop]
  exact ⟨key 0 (by omega), key 1 (by omega), key 2 (by omega)⟩
theorem many_ok (n m : Int) (w : World) : Calls Tryz.prog 43 #[.int .i64 n, .int .i64 m] w (Post w No (Just (.int .i64 (sizesK n m)))) := by
  refine enter0 (vs := [_, _]) Tryz.func43 rfl Tryz.ntmps43 rfl ?_
  repeat' first
    | refine k_then ?_ | refine c_seq ?_ | refine c_region ?_ | refine s_nil ?_ | refine s_move (by exact rfl) (by exact rfl) ?_ | refine s_assign (by exact rfl) (by exact rfl) ?_ | refine s_lss (by exact rfl) (by exact rfl) (by exact rfl) ?_ | refine s_gtr (by exact rfl) (by exact rfl) (by exact rfl) ?_ | refine s_pick_t (by exact rfl) (by exact rfl) (by exact rfl) ?_ | refine s_pick_f (by exact rfl) (by exact rfl) (by exact rfl) ?_ | refine c_skip ?_ | refine c_ret ?_ | refine k_then_ret ?_ | (refine c_cond_p (by exact rfl) (fun h => ?_) (fun h => ?_) <;> try (exfalso; omega)) | refine c_cond_t (by exact rfl) ?_ | (refine g_case (by exact rfl) (by exact rfl) (fun h => ?_) (fun h => ?_) <;> try (exfalso; omega)) | refine g_skip (by exact rfl) (by exact rfl) (by exact rfl) (by exact rfl) ?_ | refine w_move (by exact rfl) (by exact rfl) (by exact rfl) (by exact rfl) ?_ | refine w_gtr (by exact rfl) (by exact rfl) (by exact rfl) (by exact rfl) (by exact rfl) ?_
  all_goals refine ret1 [] rfl rfl rfl ⟨?_, rfl⟩
  all_goals (refine congrArg (Value.int .i64) ?_; simp only [sizesK]; repeat' split)
  all_goals omega
theorem edge_ok (n : Int) (e : E) (w : World) : Calls Tryz.prog 44 #[.int .i64 n, .agg (eV e).toArray] w (Post w No (Just (.int .i64 (aloneK n e.1 e.2.1 e.2.2)))) := by
  refine enter0 (vs := [_, _]) Tryz.func44 rfl Tryz.ntmps44 rfl ?_
  repeat' first
    | refine k_then ?_ | refine c_seq ?_ | refine c_region ?_ | refine s_nil ?_ | refine s_move (by exact rfl) (by exact rfl) ?_ | refine s_assign (by exact rfl) (by exact rfl) ?_ | refine s_fa (by exact rfl) (by exact rfl) ?_ | refine s_ld_box (by exact rfl) (by exact rfl) (by exact .head _) (by exact rfl) ?_ | refine s_lss (by exact rfl) (by exact rfl) (by exact rfl) ?_ | refine s_leq (by exact rfl) (by exact rfl) (by exact rfl) ?_ | refine s_eql (by exact rfl) (by exact rfl) (by exact rfl) ?_ | refine s_pick_t (by exact rfl) (by exact rfl) (by exact rfl) ?_ | refine s_pick_f (by exact rfl) (by exact rfl) (by exact rfl) ?_ | refine o_box (by exact rfl) (by exact rfl) (fun b => ?_) | refine c_skip ?_ | refine c_ret ?_ | refine k_then_ret ?_ | (refine c_cond_p (by exact rfl) (fun h => ?_) (fun h => ?_) <;> try (exfalso; omega)) | refine c_cond_t (by exact rfl) ?_ | (refine g_case (by exact rfl) (by exact rfl) (fun h => ?_) (fun h => ?_) <;> try (exfalso; omega)) | refine g_skip (by exact rfl) (by exact rfl) (by exact rfl) (by exact rfl) ?_ | refine w_move (by exact rfl) (by exact rfl) (by exact rfl) (by exact rfl) ?_ | refine w_fa (by exact rfl) (by exact rfl) (by exact rfl) (by exact rfl) ?_ | refine w_ld_box (by exact rfl) (by exact rfl) (by exact rfl) (by exact rfl) (by exact .head _) (by exact rfl) ?_ | refine w_lss (by exact rfl) (by exact rfl) (by exact rfl) (by exact rfl) (by exact rfl) ?_ | refine w_geq (by exact rfl) (by exact rfl) (by exact rfl) (by exact rfl) (by exact rfl) ?_
  all_goals refine ret1 [] rfl rfl rfl ⟨?_, rfl⟩
  all_goals (refine congrArg (Value.int .i64) ?_; simp only [aloneK]; repeat' split)
  all_goals omega
theorem below_ok (a b : E) (w : World) : Calls Tryz.prog 45 #[.agg (eV a).toArray, .agg (eV b).toArray] w (Post w No (Just (.bool (belowB a b)))) := by
  refine enter0 (vs := [_, _]) Tryz.func45 rfl Tryz.ntmps45 rfl ?_
  repeat' first
    | refine k_then ?_ | refine c_seq ?_ | refine c_region ?_ | refine s_nil ?_ | refine s_move (by exact rfl) (by exact rfl) ?_ | refine s_assign (by exact rfl) (by exact rfl) ?_ | refine s_fa (by exact rfl) (by exact rfl) ?_ | refine s_ld_box (by exact rfl) (by exact rfl) (by first | exact .head _ | exact .tail _ (.head _)) (by exact rfl) ?_ | refine s_lss (by exact rfl) (by exact rfl) (by exact rfl) ?_ | refine s_pick_t (by exact rfl) (by exact rfl) (by exact rfl) ?_ | refine s_pick_f (by exact rfl) (by exact rfl) (by exact rfl) ?_ | refine o_box (by exact rfl) (by exact rfl) (fun b => ?_) | refine c_ret ?_ | (refine g_case (by exact rfl) (by exact rfl) (fun h => ?_) (fun h => ?_) <;> try (exfalso; omega)) | refine g_skip (by exact rfl) (by exact rfl) (by exact rfl) (by exact rfl) ?_ | refine w_move (by exact rfl) (by exact rfl) (by exact rfl) (by exact rfl) ?_ | refine w_fa (by exact rfl) (by exact rfl) (by exact rfl) (by exact rfl) ?_ | refine w_ld_box (by exact rfl) (by exact rfl) (by exact rfl) (by exact rfl) (by first | exact .head _ | exact .tail _ (.head _)) (by exact rfl) ?_ | refine w_lss (by exact rfl) (by exact rfl) (by exact rfl) (by exact rfl) (by exact rfl) ?_ | refine w_eql (by exact rfl) (by exact rfl) (by exact rfl) (by exact rfl) (by exact rfl) ?_ | refine w_pick_t (by exact rfl) (by exact rfl) (by exact rfl) (by exact rfl) (by exact rfl) ?_ | refine w_pick_f (by exact rfl) (by exact rfl) (by exact rfl) (by exact rfl) (by exact rfl) ?_
  all_goals refine ret1 [] rfl rfl rfl ⟨?_, rfl⟩
  all_goals (refine congrArg Value.bool ?_; simp only [belowB])
  all_goals simp_all
theorem refRight_ok (n : Int) (v : Value) (es : List E) (w : World) (hs : Shp v es.length) (hr : RO w No v (esV es)) (hm : es.length < 4611686018427387904) :
    Calls Tryz.prog 39 #[.agg #[.int .i64 n, v]] w (Post w No (Just (.int .i64 (rightK n es)))) := by
  refine enter0 (vs := [_]) Tryz.func39 rfl Tryz.ntmps39 rfl ?_
  repeat' first
    | refine k_then ?_ | refine c_seq ?_ | refine c_region ?_ | refine s_nil ?_ | refine s_assign (by exact rfl) (by exact rfl) ?_ | refine s_fa (by exact rfl) (by exact rfl) ?_ | refine s_ld_box (by exact rfl) (by exact rfl) (by exact .head _) (by exact rfl) ?_ | refine s_len (by exact rfl) (by exact rfl) (by assumption) ?_ | refine o_box (by exact rfl) (by exact rfl) (fun b => ?_)
  refine s_call (by exact rfl) (by exact rfl) (fun w hs => many_ok _ _ w) ?_
  repeat' first
    | refine k_then ?_ | refine c_seq ?_ | refine c_region ?_ | refine s_nil ?_ | refine s_move (by exact rfl) (by exact rfl) ?_ | refine s_assign (by exact rfl) (by exact rfl) ?_ | refine s_neq (by exact rfl) (by exact rfl) (by exact rfl) ?_ | refine c_block ?_ | refine c_skip ?_ | refine c_ret ?_ | refine k_then_ret ?_ | (refine c_cond_p (by exact rfl) (fun h => ?_) (fun h => ?_) <;> try (exfalso; omega))
  · refine ret1 [] rfl rfl rfl ⟨congrArg (Value.int .i64) ?_, rfl⟩
    rw [rightK, if_neg h]
  · have h0 : sizesK n es.length = 0 := by simpa using h
    refine c_loop (fun k : Nat => k ≤ es.length ∧ scan n (prev es k) (es.drop k) = scan n none es) (fun k => [(1, .pointer (some ⟨b, 0, none⟩)), (4, .int .i64 (k : Int))]) (fun _ => [boxHP b 24 [.int .i64 n, v]]) (fun k => es.length - k) 0 [0] ⟨by omega, rfl⟩ rfl ⟨rfl, rfl, trivial⟩ ?_
    rintro k ⟨hk, hsc⟩
    by_cases hlt : k < es.length
    · obtain ⟨e, he⟩ : ∃ e, es[k]? = some e := ⟨_, List.getElem?_eq_getElem hlt⟩
      have hE := esV_at he
      obtain ⟨hE0, hE1, hE2⟩ := esV_get he
      rw [scan_at he] at hsc
      repeat' first
        | refine k_then ?_ | refine c_seq ?_ | refine c_region ?_ | refine s_nil ?_ | refine s_move (by exact rfl) (by exact rfl) ?_ | refine s_fa (by exact rfl) (by exact rfl) ?_ | refine s_ld_box (by exact rfl) (by exact rfl) (by exact .head _) (by exact rfl) ?_ | refine s_lss (by exact rfl) (by exact rfl) (by exact rfl) ?_ | refine s_len (by exact rfl) (by exact rfl) (by assumption) ?_ | refine c_block ?_ | refine c_skip ?_ | (refine c_cond_p (by exact rfl) (fun h => ?_) (fun h => ?_) <;> try (exfalso; omega))
      refine p_begin0 [(0, true), (1, true), (2, true), (3, true), (4, true), (5, true), (6, true), (7, false), (8, true)] (by kernel_rfl) ?_
      repeat' first
        | (refine p_at (by exact rfl) ?_
           first
            | refine t_move (by exact rfl) (by exact rfl) (by exact fun _ h => h) ?_ | refine t_fa (by exact rfl) (by exact rfl) (by exact fun _ h => h) ?_ | refine t_ld_box (by exact rfl) (by exact rfl) (by exact .head _) (by exact rfl) (by exact fun _ h => h) ?_ | refine t_idx (by exact rfl) (by exact rfl) (by exact rfl) (by assumption) (by first | assumption | omega) (by exact fun _ h => h) ?_ | refine t_ldk_ro (by exact rfl) (by exact rfl) (by assumption) (by decide) (by assumption) (by exact rfl) (by exact fun _ h => h) ?_)
      refine p_call (gd := none) (by exact rfl) rfl (by exact rfl) (fun w hs => edge_ok n e w) (by exact fun _ h => h) ?_
      repeat' first
        | refine p_nil ?_
        | (refine p_at (by exact rfl) ?_
           first
            | refine t_assign (by exact rfl) (by exact rfl) (by exact fun _ h => h) ?_)
      repeat' first
        | refine k_then ?_ | refine c_seq ?_ | refine c_region ?_ | refine s_nil ?_ | refine s_move (by exact rfl) (by exact rfl) ?_ | refine s_assign (by exact rfl) (by exact rfl) ?_ | refine s_neq (by exact rfl) (by exact rfl) (by exact rfl) ?_ | refine c_skip ?_ | refine c_ret ?_ | refine k_then_ret ?_ | refine k_blk_ret ?_ | (refine c_cond_p (by exact rfl) (fun h => ?_) (fun h => ?_) <;> try (exfalso; omega))
      · refine ret1 [] rfl rfl rfl ⟨congrArg (Value.int .i64) ?_, rfl⟩
        rw [rightK, if_pos h0, ← hsc, if_neg h]
      · refine p_begin0 [(0, true), (1, true), (2, true), (3, true), (4, true), (5, true), (6, true), (7, true), (8, true), (9, true), (10, true), (11, true), (12, true)] (by kernel_rfl) ?_
        repeat' first
          | refine p_nil ?_
          | (refine p_at (by exact rfl) ?_
             first
              | refine t_move (by exact rfl) (by exact rfl) (by exact fun _ h => h) ?_ | refine t_fa (by exact rfl) (by exact rfl) (by exact fun _ h => h) ?_ | refine t_ld_box (by exact rfl) (by exact rfl) (by exact .head _) (by exact rfl) (by exact fun _ h => h) ?_ | refine t_gtr (by exact rfl) (by exact rfl) (by exact rfl) (by exact fun _ h => h) ?_ | refine t_idx (by exact rfl) (by exact rfl) (by exact rfl) (by assumption) (by first | assumption | omega) (by exact fun _ h => h) ?_ | refine t_fap (by exact rfl) (by exact rfl) (by assumption) (by omega) (by exact fun _ h => h) ?_ | refine t_ld_ro (by exact rfl) (by exact rfl) (by assumption) (by assumption) (by exact fun _ h => h) ?_)
        repeat' first
          | refine k_then ?_ | refine c_seq ?_ | refine c_region ?_ | refine s_nil ?_ | refine s_assign (by exact rfl) (by exact rfl) ?_ | refine c_skip ?_ | refine c_ret ?_ | refine k_then_ret ?_ | refine k_blk_ret ?_ | (refine c_cond_p (by exact rfl) (fun h => ?_) (fun h => ?_) <;> try (exfalso; omega))
        · refine ret1 [] rfl rfl rfl ⟨congrArg (Value.int .i64) ?_, rfl⟩
          rw [rightK, if_pos h0, ← hsc, if_pos (by omega), if_pos h]
        · refine p_begin0 [(0, true), (1, true), (2, true), (3, true), (4, true), (5, true), (6, true), (7, true), (8, true), (9, true), (10, true), (11, true), (12, true), (13, true), (14, false), (15, true), (16, true)] (by kernel_rfl) ?_
          by_cases hk0 : k = 0
          · subst hk0
            repeat' first
              | refine p_nil ?_
              | (refine p_at (by exact rfl) ?_
                 first
                  | refine t_move (by exact rfl) (by exact rfl) (by exact fun _ h => h) ?_ | refine t_gtr (by exact rfl) (by exact rfl) (by exact rfl) (by exact fun _ h => h) ?_ | refine t_pick_f (by exact rfl) (by exact rfl) (by exact rfl) (by exact fun _ h => h) ?_ | (refine t_case (by exact rfl) (by exact rfl) (fun h => ?_) (fun h => ?_) <;> try (exfalso; omega)) | refine t_skip (by exact rfl) (by exact rfl) (by exact rfl) (by exact rfl) (by exact fun _ h => h) ?_ | refine t_skipl (by exact rfl) (by exact rfl) (by exact rfl) (by exact rfl) (by exact fun _ h => h) ?_)
            repeat' first
              | refine k_then ?_ | refine c_region ?_ | refine s_nil ?_ | refine s_move (by exact rfl) (by exact rfl) ?_ | refine s_assign (by exact rfl) (by exact rfl) ?_ | refine s_add (by exact rfl) (by exact rfl) (by exact rfl) (by omega) ?_ | refine c_skip ?_ | refine k_blk ?_ | refine c_cond_f (by exact rfl) ?_
            refine c_round 1 [0] (by exact rfl) (by exact ⟨rfl, rfl, trivial⟩) ⟨by omega, ?_⟩ (by omega)
            rw [← hsc, if_pos (by omega), if_neg (by omega)]
            simp only [prev, Nat.one_ne_zero, if_false, Nat.sub_self, he, if_true, Nat.zero_add]
          · obtain ⟨q, hq⟩ : ∃ q, es[k - 1]? = some q := ⟨_, List.getElem?_eq_getElem (by omega)⟩
            have hQ : ((esV es).drop (((k : Int) - 1).toNat * 3)).take 3 = eV q := by
              rw [show ((k : Int) - 1).toNat = k - 1 from by omega]
              exact esV_at hq
            have hpr : prev es k = some q := by rw [prev, if_neg hk0, hq]
            rw [hpr] at hsc
            repeat' first
              | (refine p_at (by exact rfl) ?_
                 first
                  | refine t_move (by exact rfl) (by exact rfl) (by exact fun _ h => h) ?_ | refine t_gtr (by exact rfl) (by exact rfl) (by exact rfl) (by exact fun _ h => h) ?_ | refine tw_move (by exact rfl) (by exact rfl) (by exact rfl) (by exact rfl) (by exact fun _ h => h) ?_ | refine tw_fa (by exact rfl) (by exact rfl) (by exact rfl) (by exact rfl) (by exact fun _ h => h) ?_ | refine tw_ld_box (by exact rfl) (by exact rfl) (by exact rfl) (by exact rfl) (by exact .head _) (by exact rfl) (by exact fun _ h => h) ?_ | refine tw_sub (by exact rfl) (by exact rfl) (by exact rfl) (by exact rfl) (by exact rfl) (by omega) (by exact fun _ h => h) ?_ | refine tw_idx (by exact rfl) (by exact rfl) (by exact rfl) (by exact rfl) (by exact rfl) (by assumption) (by first | assumption | omega) (by exact fun _ h => h) ?_ | refine tw_idxi (by exact rfl) (by exact rfl) (by exact rfl) (by exact rfl) (by exact rfl) (by assumption) (by first | assumption | omega) (by exact fun _ h => h) ?_ | refine tw_ldk_ro (by exact rfl) (by exact rfl) (by exact rfl) (by exact rfl) (by assumption) (by decide) (by assumption) (by exact rfl) (by exact fun _ h => h) ?_ | (refine t_case (by exact rfl) (by exact rfl) (fun h => ?_) (fun h => ?_) <;> try (exfalso; omega)))
            refine p_callw (by exact rfl) (by exact rfl) (by exact rfl) rfl (by exact rfl) (fun w hs => below_ok q e w) (by exact fun _ h => h) ?_
            have hb1 := orderK_below q e
            have hrg := orderK_range q e
            cases hbl : belowB q e
            · have ho : orderK q e ≠ -1 := fun hh => by rw [hb1.1.2 hh] at hbl; simp at hbl
              repeat' first
                | refine p_nil ?_
                | (refine p_at (by exact rfl) ?_
                   first
                    | refine t_pick_t (by exact rfl) (by exact rfl) (by exact rfl) (by exact fun _ h => h) ?_ | refine tw_not (by exact rfl) (by exact rfl) (by exact rfl) (by exact rfl) (by exact fun _ h => h) ?_)
              repeat' first
                | refine k_then ?_ | refine c_seq ?_ | refine c_cond_t (by exact rfl) ?_
              refine p_begin0 [(0, true), (1, true), (2, true), (3, true), (4, true), (5, true), (6, true), (7, true), (8, true), (9, true), (10, true), (11, false)] (by kernel_rfl) ?_
              repeat' first
                | (refine p_at (by exact rfl) ?_
                   first
                    | refine t_move (by exact rfl) (by exact rfl) (by exact fun _ h => h) ?_ | refine t_fa (by exact rfl) (by exact rfl) (by exact fun _ h => h) ?_ | refine t_ld_box (by exact rfl) (by exact rfl) (by exact .head _) (by exact rfl) (by exact fun _ h => h) ?_ | refine t_sub (by exact rfl) (by exact rfl) (by exact rfl) (by omega) (by exact fun _ h => h) ?_ | refine t_idx (by exact rfl) (by exact rfl) (by exact rfl) (by assumption) (by first | assumption | omega) (by exact fun _ h => h) ?_ | refine t_idxi (by exact rfl) (by exact rfl) (by exact rfl) (by assumption) (by first | assumption | omega) (by exact fun _ h => h) ?_ | refine t_ldk_ro (by exact rfl) (by exact rfl) (by assumption) (by decide) (by assumption) (by exact rfl) (by exact fun _ h => h) ?_)
              refine p_call (gd := none) (by exact rfl) rfl (by exact rfl) (fun w hs => below_ok e q w) (by exact fun _ h => h) ?_
              cases hbl2 : belowB e q
              · have ho2 : orderK q e ≠ 1 := fun hh => by rw [hb1.2.2 hh] at hbl2; simp at hbl2
                repeat' first
                  | refine p_nil ?_
                repeat' first
                  | refine k_then ?_ | refine c_seq ?_ | refine c_region ?_ | refine s_nil ?_ | refine s_assign (by exact rfl) (by exact rfl) ?_ | refine c_skip ?_ | refine c_ret ?_ | refine k_then_ret ?_ | refine k_blk_ret ?_ | refine c_cond_f (by exact rfl) ?_
                refine ret1 [] rfl rfl rfl ⟨congrArg (Value.int .i64) ?_, rfl⟩
                rw [rightK, if_pos h0, ← hsc, if_pos (by omega), if_neg (by omega)]
                dsimp only
                rw [if_pos (by omega)]
              · have ho2 := hb1.2.1 hbl2
                repeat' first
                  | refine p_nil ?_
                repeat' first
                  | refine k_then ?_ | refine c_seq ?_ | refine c_region ?_ | refine s_nil ?_ | refine s_assign (by exact rfl) (by exact rfl) ?_ | refine c_ret ?_ | refine k_then_ret ?_ | refine k_blk_ret ?_ | refine c_cond_t (by exact rfl) ?_
                refine ret1 [] rfl rfl rfl ⟨congrArg (Value.int .i64) ?_, rfl⟩
                rw [rightK, if_pos h0, ← hsc, if_pos (by omega), if_neg (by omega)]
                dsimp only
                rw [if_neg (by omega), if_pos (by omega)]
            · have ho := hb1.1.1 hbl
              repeat' first
                | refine p_nil ?_
                | (refine p_at (by exact rfl) ?_
                   first
                    | refine t_pick_t (by exact rfl) (by exact rfl) (by exact rfl) (by exact fun _ h => h) ?_ | refine tw_not (by exact rfl) (by exact rfl) (by exact rfl) (by exact rfl) (by exact fun _ h => h) ?_)
              repeat' first
                | refine k_then ?_ | refine c_region ?_ | refine s_nil ?_ | refine s_move (by exact rfl) (by exact rfl) ?_ | refine s_assign (by exact rfl) (by exact rfl) ?_ | refine s_add (by exact rfl) (by exact rfl) (by exact rfl) (by omega) ?_ | refine c_skip ?_ | refine k_blk ?_ | refine c_cond_f (by exact rfl) ?_
              refine c_round (k + 1) [0] (by exact rfl) (by exact ⟨rfl, rfl, trivial⟩) ⟨by omega, ?_⟩ (by omega)
              rw [← hsc, if_pos (by omega), if_neg (by omega)]
              simp only [prev, Nat.add_sub_cancel, he]
              rw [if_neg (by omega), if_neg (by omega), if_neg (by omega)]
    · repeat' first
        | refine k_then ?_ | refine c_seq ?_ | refine c_region ?_ | refine s_nil ?_ | refine s_move (by exact rfl) (by exact rfl) ?_ | refine s_assign (by exact rfl) (by exact rfl) ?_ | refine s_fa (by exact rfl) (by exact rfl) ?_ | refine s_ld_box (by exact rfl) (by exact rfl) (by exact .head _) (by exact rfl) ?_ | refine s_lss (by exact rfl) (by exact rfl) (by exact rfl) ?_ | refine s_len (by exact rfl) (by exact rfl) (by assumption) ?_ | refine c_exit ?_ | refine c_ret ?_ | refine k_then_exit ?_ | refine k_blk_eq ?_ | (refine c_cond_p (by exact rfl) (fun h => ?_) (fun h => ?_) <;> try (exfalso; omega))
      refine ret1 [] rfl rfl rfl ⟨congrArg (Value.int .i64) ?_, rfl⟩
      rw [rightK, if_pos h0, ← hsc, List.drop_eq_nil_of_le (by omega)]
      simp [scan]
theorem Light_ok (n : Int) (v : Value) (m : Nat) (k : Int) (w : World) (hs : Shp v m) (hk : 0 ≤ k ∧ k < 1000000) :
    Calls Tryz.prog 14 #[.agg #[.int .i64 n, v], .int .i64 k] w (Post w No (Just (.bool (decide (n ≤ k) && decide ((m : Int) ≤ 4 * k))))) := by
  refine enter0 (vs := [_, _]) Tryz.func14 rfl Tryz.ntmps14 rfl ?_
  repeat' first
    | refine k_then ?_ | refine c_seq ?_ | refine c_region ?_ | refine s_nil ?_ | refine s_move (by exact rfl) (by exact rfl) ?_ | refine s_assign (by exact rfl) (by exact rfl) ?_ | refine s_fa (by exact rfl) (by exact rfl) ?_ | refine s_ld_box (by exact rfl) (by exact rfl) (by exact .head _) (by exact rfl) ?_ | refine s_leq (by exact rfl) (by exact rfl) (by exact rfl) ?_ | refine s_pick_t (by exact rfl) (by exact rfl) (by exact rfl) ?_ | refine s_pick_f (by exact rfl) (by exact rfl) (by exact rfl) ?_ | refine o_box (by exact rfl) (by exact rfl) (fun b => ?_) | refine c_ret ?_ | (refine g_case (by exact rfl) (by exact rfl) (fun h => ?_) (fun h => ?_) <;> try (exfalso; omega)) | refine g_skip (by exact rfl) (by exact rfl) (by exact rfl) (by exact rfl) ?_ | refine w_move (by exact rfl) (by exact rfl) (by exact rfl) (by exact rfl) ?_ | refine w_fa (by exact rfl) (by exact rfl) (by exact rfl) (by exact rfl) ?_ | refine w_ld_box (by exact rfl) (by exact rfl) (by exact rfl) (by exact rfl) (by exact .head _) (by exact rfl) ?_ | refine w_leq (by exact rfl) (by exact rfl) (by exact rfl) (by exact rfl) (by exact rfl) ?_ | refine w_mul (by exact rfl) (by exact rfl) (by exact rfl) (by exact rfl) (by exact rfl) (by omega) ?_ | refine w_len (by exact rfl) (by exact rfl) (by exact rfl) (by exact rfl) (by assumption) ?_
  all_goals refine ret1 [] rfl rfl rfl ⟨?_, rfl⟩
  all_goals refine congrArg Value.bool ?_
  · rw [decide_eq_true h, Bool.true_and]
  · rw [decide_eq_false h, Bool.false_and]
end Go.Proofs.YtpajjnkmaebhcaaGreat
end
section
namespace Go.Sl
open Go Go.RowKit
/-- rows that are read, by rows of numbers -/
structure ROs (w : World) (S : FS) (v : Value) (hs : List Value) (ls : List (List Nat)) : Prop where
  shp : Shp v ls.length
  len : hs.length = ls.length
  ro : RO w S v hs
  kid : ∀ (i : Nat) h l, hs[i]? = some h → ls[i]? = some l → Shp h l.length ∧ RO w S h (nV l)
theorem ros_own {w0 w : World} {S0 : FS} {L : List HP} {v : Value} {e : TypeId} {m : Nat} {hs : List Value} {ls : List (List Nat)} (h : St w0 S0 L w) (hL : rowHP v e 1 m hs ∈ L) (hm : m = ls.length) (hK : starHP (kids rowN hs ls) ∈ L) : ROs w No v hs ls := by
  obtain ⟨S, hsat⟩ := h.mem hL
  have hl : hs.length = m := by have := hsat.1; omega
  refine ⟨hm ▸ rowHP_shp hsat, by omega, RO.of_rd (rowHP_rd hsat), fun i x l h1 h2 => ?_⟩
  have hk : rowHP x 3 1 l.length (nV l) ∈ kids rowN hs ls := kids_mem (f := rowN) h1 h2
  obtain ⟨S, hsat⟩ := h.kid hK hk
  exact ⟨rowHP_shp hsat, RO.of_rd (rowHP_rd hsat)⟩
theorem ros_old {w0 w : World} {S0 : FS} {L : List HP} {v : Value} {hs : List Value} {ls : List (List Nat)} (h : St w0 S0 L w) (hr : ROs w0 S0 v hs ls) : ROs w No v hs ls :=
  ⟨hr.shp, hr.len, ro_old h hr.ro, fun i x l h1 h2 => ⟨(hr.kid i x l h1 h2).1, ro_old h (hr.kid i x l h1 h2).2⟩⟩
end Go.Sl
namespace Go.Proofs.YtpajjnkmaebhcaaGreat
open Go.RowKit Go.Sl Fil
set_option maxRecDepth 100000
set_option maxHeartbeats 8000000
set_option linter.unusedVariables false
set_option linter.unusedSimpArgs false
attribute [local irreducible] Code.wp wpList bodyPost wpQuiet Exit.then Exit.inBlock Post wpAnyH wpOp
end Go.Proofs.YtpajjnkmaebhcaaGreat
end
section
set_option linter.unusedVariables false
set_option linter.unusedSectionVars false
namespace Fil
section
variable {α β : Type}
/-- from s through l to t, step by step by p -/
def st (p : α → α) : List α → α → α → Prop
  | [], s, t => s = t
  | a :: l, s, t => s = a ∧ st p l (p a) t
theorem st_app {p : α → α} : ∀ {a b : List α} {s t : α}, st p (a ++ b) s t ↔ ∃ m, st p a s m ∧ st p b m t
  | [], b, s, t => ⟨fun h => ⟨s, rfl, h⟩, fun ⟨m, h1, h2⟩ => by cases h1; exact h2⟩
  | x :: a, b, s, t => by
    simp only [List.cons_append, st]
    rw [st_app]
    exact ⟨fun ⟨h, m, h1, h2⟩ => ⟨m, ⟨h, h1⟩, h2⟩, fun ⟨m, ⟨h, h1⟩, h2⟩ => ⟨h, m, h1, h2⟩⟩
theorem st_congr {p q : α → α} : ∀ {l : List α} {s t : α}, (∀ a ∈ l, p a = q a) → st p l s t → st q l s t
  | [], s, t, _, h => h
  | a :: l, s, t, h, ⟨h1, h2⟩ => ⟨h1, st_congr (fun b hb => h b (.tail _ hb)) (by rw [← h a (.head _)]; exact h2)⟩
theorem st_map {p : α → α} {q : β → β} {f : α → β} : ∀ {l : List α} {s t : α}, (∀ a ∈ l, q (f a) = f (p a)) → st p l s t → st q (l.map f) (f s) (f t)
  | [], s, t, _, h => congrArg f h
  | a :: l, s, t, h, ⟨h1, h2⟩ => ⟨congrArg f h1, by rw [h a (.head _)]; exact st_map (fun b hb => h b (.tail _ hb)) h2⟩
/-- a cycle -/
def Cy (p : α → α) (l : List α) : Prop := l ≠ [] ∧ ∃ s, st p l s s
theorem Cy.congr {p q : α → α} {l : List α} (h : Cy p l) (hq : ∀ a ∈ l, p a = q a) : Cy q l := ⟨h.1, h.2.imp fun _ => st_congr hq⟩
theorem Cy.cons {p : α → α} {x : α} {l : List α} : Cy p (x :: l) ↔ st p l (p x) x :=
  ⟨fun ⟨_, s, h1, h2⟩ => by subst h1; exact h2, fun h => ⟨by simp, x, rfl, h⟩⟩
theorem Cy.rot {p : α → α} {a b : List α} (h : Cy p (a ++ b)) : Cy p (b ++ a) := by
  obtain ⟨h1, s, h2⟩ := h
  obtain ⟨m, h3, h4⟩ := st_app.1 h2
  exact ⟨by simp_all [and_comm], m, st_app.2 ⟨s, h4, h3⟩⟩
theorem st_in {p : α → α} {S : α → Prop} (hS : ∀ z, S z → S (p z)) : ∀ {l : List α} {s t : α}, st p l s t → S s → (∀ z ∈ l, S z) ∧ S t
  | [], s, t, h, hs => by cases h; exact ⟨by simp, hs⟩
  | a :: l, s, t, ⟨h1, h2⟩, hs => by
    subst h1
    have := st_in hS h2 (hS _ hs)
    exact ⟨fun z hz => (List.mem_cons.1 hz).elim (fun e => e ▸ hs) (this.1 z), this.2⟩
theorem Cy.in {p : α → α} {S : α → Prop} (hS : ∀ z, S z → S (p z)) {l : List α} (h : Cy p l) {a : α} (ha : a ∈ l) (hs : S a) : ∀ z ∈ l, S z := by
  obtain ⟨l1, l2, rfl⟩ := List.append_of_mem ha
  have h2 := h.rot
  rw [List.cons_append, Cy.cons] at h2
  have := (st_in hS h2 (hS _ hs)).1
  intro z hz
  rcases List.mem_append.1 hz with hz | hz
  · exact this z (List.mem_append.2 (.inr hz))
  · rcases List.mem_cons.1 hz with rfl | hz
    · exact hs
    · exact this z (List.mem_append.2 (.inl hz))
theorem Cy.shut {p : α → α} {l : List α} (h : Cy p l) {a : α} (ha : a ∈ l) : p a ∈ l := by
  obtain ⟨l1, l2, rfl⟩ := List.append_of_mem ha
  have h2 := h.rot
  rw [List.cons_append, Cy.cons] at h2
  cases hr : l2 ++ l1 with
  | nil =>
    rw [hr] at h2
    have : p a = a := h2
    rw [this]; exact ha
  | cons b r =>
    rw [hr] at h2
    have : p a = b := h2.1
    have hb : b ∈ l2 ++ l1 := by rw [hr]; exact .head _
    rw [this]
    rcases List.mem_append.1 hb with hb | hb
    · exact List.mem_append.2 (.inr (.tail _ hb))
    · exact List.mem_append.2 (.inl hb)
theorem Cy.sub {p : α → α} {l m : List α} (h : Cy p l) (hm : Cy p m) {a : α} (ha : a ∈ l) (ham : a ∈ m) : ∀ z ∈ l, z ∈ m := h.in (S := (· ∈ m)) (fun z hz => hm.shut hz) ha ham
theorem perm_of_nodup {l m : List α} (hl : l.Nodup) (hm : m.Nodup) (h : ∀ a, a ∈ l ↔ a ∈ m) : l.Perm m := by
  classical
  exact (List.perm_ext_iff_of_nodup hl hm).2 h
theorem sub_length {l m : List α} (hl : l.Nodup) (h : ∀ a ∈ l, a ∈ m) : l.length ≤ m.length := by
  classical
  induction l generalizing m with
  | nil => simp
  | cons a l ih =>
    obtain ⟨m1, m2, rfl⟩ := List.append_of_mem (h a (.head _))
    rw [List.nodup_cons] at hl
    have := ih (m := m1 ++ m2) hl.2 fun b hb => by
      have h1 := h b (.tail _ hb)
      have h2 : b ≠ a := fun e => hl.1 (e ▸ hb)
      simp only [List.mem_append, List.mem_cons, h2, false_or] at h1
      simpa using h1
    simp only [List.length_append, List.length_cons] at this ⊢
    omega
theorem perm_of_sub {l m : List α} (hl : l.Nodup) (h : ∀ a ∈ l, a ∈ m) (hm : m.length ≤ l.length) : l.Perm m := by
  classical
  induction l generalizing m with
  | nil =>
    obtain rfl : m = [] := List.eq_nil_of_length_eq_zero (by simpa using hm)
    exact .refl _
  | cons a l ih =>
    obtain ⟨m1, m2, rfl⟩ := List.append_of_mem (h a (.head _))
    rw [List.nodup_cons] at hl
    have := ih (m := m1 ++ m2) hl.2 (fun b hb => by
      have h1 := h b (.tail _ hb)
      have h2 : b ≠ a := fun e => hl.1 (e ▸ hb)
      simp only [List.mem_append, List.mem_cons, h2, false_or] at h1
      simpa using h1) (by
      simp only [List.length_append, List.length_cons] at hm ⊢
      omega)
    exact (this.cons a).trans List.perm_middle.symm
/-- as many cycles, however they are told -/
theorem cy_count {p : α → α} : ∀ {C1 C2 : List (List α)}, (∀ l ∈ C1, Cy p l) → (∀ l ∈ C2, Cy p l) → C1.flatten.Perm C2.flatten → C1.flatten.Nodup → C1.length = C2.length
  | [], C2, _, h2, hp, _ => by
    cases C2 with
    | nil => rfl
    | cons l C2 =>
      exact absurd (by have := hp.symm.eq_nil; simp at this; exact this.1) (h2 l (.head _)).1
  | l :: C1, C2, h1, h2, hp, hn => by
    have hl := h1 l (.head _)
    obtain ⟨a, ha⟩ := List.exists_mem_of_ne_nil _ hl.1
    have ha2 : a ∈ C2.flatten := hp.mem_iff.1 (by simp [ha])
    obtain ⟨m, hm, ham⟩ := List.mem_flatten.1 ha2
    obtain ⟨x, y, rfl⟩ := List.append_of_mem hm
    have hn2 : (x ++ m :: y).flatten.Nodup := hp.nodup_iff.1 hn
    have hmc := h2 m (by simp)
    have hq : (x ++ m :: y).flatten.Perm (m ++ (x ++ y).flatten) := by
      simp only [List.flatten_append, List.flatten_cons]
      rw [← List.append_assoc, ← List.append_assoc]
      exact List.perm_append_comm.append_right _
    have nm : m.Nodup := (List.nodup_append.1 (hq.nodup_iff.1 hn2)).1
    have nl : l.Nodup := (List.nodup_append.1 (by simpa using hn)).1
    have hlm : l.Perm m := perm_of_nodup nl nm fun z => ⟨hl.sub hmc ha ham z, hmc.sub hl ham ha z⟩
    have hr : C1.flatten.Perm (x ++ y).flatten := by
      have : (l ++ C1.flatten).Perm (l ++ (x ++ y).flatten) := by
        have h3 : (l ++ C1.flatten).Perm (x ++ m :: y).flatten := by simpa using hp
        exact (h3.trans hq).trans (hlm.symm.append_right _)
      exact (List.perm_append_left_iff l).1 this
    have := cy_count (C1 := C1) (C2 := x ++ y) (fun l hl => h1 l (.tail _ hl)) (fun l hl => h2 l (by
      rcases List.mem_append.1 hl with h | h
      · exact List.mem_append.2 (.inl h)
      · exact List.mem_append.2 (.inr (.tail _ h)))) hr (List.nodup_append.1 (by simpa using hn)).2.1
    simp only [List.length_cons, List.length_append] at this ⊢
    omega
/-- all the cycles of a list -/
structure Dec (p : α → α) (ds : List α) (C : List (List α)) : Prop where
  nd : ds.Nodup
  cy : ∀ l ∈ C, Cy p l
  perm : C.flatten.Perm ds
theorem Dec.count {p : α → α} {ds : List α} {C1 C2 : List (List α)} (h1 : Dec p ds C1) (h2 : Dec p ds C2) : C1.length = C2.length :=
  cy_count h1.cy h2.cy (h1.perm.trans h2.perm.symm) (h1.perm.nodup_iff.2 h1.nd)
theorem Dec.order {p : α → α} {ds : List α} {C1 C2 : List (List α)} (h : Dec p ds C1) (hp : C1.Perm C2) : Dec p ds C2 :=
  ⟨h.nd, fun l hl => h.cy l (hp.mem_iff.2 hl), hp.symm.flatten.trans h.perm⟩
theorem Dec.congr {p q : α → α} {ds : List α} {C : List (List α)} (h : Dec p ds C) (hq : ∀ a ∈ ds, p a = q a) : Dec q ds C :=
  ⟨h.nd, fun l hl => (h.cy l hl).congr fun a ha => hq a (h.perm.mem_iff.1 (List.mem_flatten.2 ⟨l, hl, ha⟩)), h.perm⟩
theorem Dec.rot {p : α → α} {ds a b : List α} {C : List (List α)} (h : Dec p ds ((a ++ b) :: C)) : Dec p ds ((b ++ a) :: C) :=
  ⟨h.nd, fun l hl => (List.mem_cons.1 hl).elim (fun e => e ▸ (h.cy _ (.head _)).rot) fun hl => h.cy l (.tail _ hl), (by
    simp only [List.flatten_cons]
    exact (List.perm_append_comm.append_right _).trans (by have := h.perm; rwa [List.flatten_cons] at this))⟩
/-- a list that holds an element, forward, and this one ahead -/
theorem Dec.front {p : α → α} {ds : List α} {C : List (List α)} (h : Dec p ds C) {x : α} (hx : x ∈ ds) : ∃ (A : List α) (l : List α × List α) (rest : List (List α)), x :: A = l.2 ++ l.1 ∧ C.Perm ((l.1 ++ l.2) :: rest) ∧ Dec p ds ((x :: A) :: rest) := by
  obtain ⟨l, hl, hxl⟩ := List.mem_flatten.1 (h.perm.mem_iff.2 hx)
  obtain ⟨a, b, rfl⟩ := List.append_of_mem hl
  obtain ⟨l1, l2, rfl⟩ := List.append_of_mem hxl
  refine ⟨l2 ++ l1, (l1, x :: l2), a ++ b, rfl, List.perm_middle, ?_⟩
  have := (h.order (C2 := (l1 ++ x :: l2) :: (a ++ b)) List.perm_middle).rot
  simpa using this
variable [DecidableEq α]
/-- two swapped ahead -/
def swp (p : α → α) (x y z : α) : α := if z = x then p y else if z = y then p x else p z
theorem swp_x (p : α → α) (x y : α) : swp p x y x = p y := if_pos rfl
theorem swp_y {p : α → α} {x y : α} (h : x ≠ y) : swp p x y y = p x := by rw [swp, if_neg (Ne.symm h), if_pos rfl]
theorem swp_o {p : α → α} {x y z : α} (hx : z ≠ x) (hy : z ≠ y) : swp p x y z = p z := by rw [swp, if_neg hx, if_neg hy]
theorem st_swp {p : α → α} {x y : α} {l : List α} {s t : α} (hx : x ∉ l) (hy : y ∉ l) (h : st p l s t) : st (swp p x y) l s t :=
  st_congr (fun a ha => (swp_o (p := p) (x := x) (y := y) (z := a) (fun e => hx (by rw [← e]; exact ha)) (fun e => hy (by rw [← e]; exact ha))).symm) h
theorem cy_swp {p : α → α} {x y : α} {l : List α} (hx : x ∉ l) (hy : y ∉ l) (h : Cy p l) : Cy (swp p x y) l := ⟨h.1, h.2.imp fun _ => st_swp hx hy⟩
theorem Dec.merge {p : α → α} {ds A B : List α} {C : List (List α)} {x y : α} (h : Dec p ds ((x :: A) :: (y :: B) :: C)) : Dec (swp p x y) ds ((x :: (B ++ y :: A)) :: C) := by
  have hp := h.perm
  have hn := hp.nodup_iff.2 h.nd
  simp only [List.flatten_cons, List.cons_append, List.nodup_cons, List.mem_append, List.mem_cons, not_or, List.nodup_append, List.mem_flatten] at hn
  have hxy : x ≠ y := hn.1.2.1
  have n1 := hn.2.2.2 
  refine ⟨h.nd, fun l hl => ?_, (?_ : List.Perm _ _).trans hp⟩
  · rcases List.mem_cons.1 hl with rfl | hl
    · have c1 := Cy.cons.1 (h.cy _ (.head _))
      have c2 := Cy.cons.1 (h.cy _ (.tail _ (.head _)))
      have xA : x ∉ A := hn.1.1
      have xB : x ∉ B := hn.1.2.2.1
      have yA : y ∉ A := fun hy => n1 _ hy _ (.inl rfl) rfl
      have yB : y ∉ B := hn.2.2.1.1.1
      rw [Cy.cons, swp_x]
      refine st_app.2 ⟨y, st_swp xB yB c2, rfl, ?_⟩
      rw [swp_y hxy]
      exact st_swp xA yA c1
    · have hx : x ∉ l := fun hx => hn.1.2.2.2 ⟨l, hl, hx⟩
      have hy : y ∉ l := fun hy => hn.2.2.1.1.2 ⟨l, hl, hy⟩
      exact cy_swp hx hy (h.cy l (.tail _ (.tail _ hl)))
  · simp only [List.flatten_cons, List.cons_append]
    refine List.Perm.cons x ?_
    have : (B ++ y :: A ++ C.flatten).Perm (y :: (B ++ A) ++ C.flatten) := List.perm_middle.append_right _
    refine this.trans ?_
    have h2 : (A ++ y :: (B ++ C.flatten)).Perm (y :: (A ++ (B ++ C.flatten))) := List.perm_middle
    refine (List.Perm.cons y ?_).trans h2.symm
    rw [← List.append_assoc]
    exact List.perm_append_comm.append_right _
theorem Dec.split {p : α → α} {ds A B : List α} {C : List (List α)} {x y : α} (h : Dec p ds ((x :: (A ++ y :: B)) :: C)) : Dec (swp p x y) ds ((x :: B) :: (y :: A) :: C) := by
  have hp := h.perm
  have hn := hp.nodup_iff.2 h.nd
  simp only [List.flatten_cons, List.cons_append, List.append_assoc, List.nodup_cons, List.mem_append, List.mem_cons, not_or, List.nodup_append, List.mem_flatten] at hn
  have hxy : x ≠ y := hn.1.2.1
  have n1 := hn.2.2.2
  refine ⟨h.nd, fun l hl => ?_, (?_ : List.Perm _ _).trans hp⟩
  · have xA : x ∉ A := hn.1.1
    have xB : x ∉ B := hn.1.2.2.1
    have yA : y ∉ A := fun hy => n1 _ hy _ (.inl rfl) rfl
    have yB : y ∉ B := hn.2.2.1.1.1
    have c := Cy.cons.1 (h.cy _ (.head _))
    obtain ⟨m, c1, e, c2⟩ := st_app.1 c
    rw [e] at c1
    rcases List.mem_cons.1 hl with rfl | hl
    · rw [Cy.cons, swp_x]
      exact st_swp xB yB c2
    · rcases List.mem_cons.1 hl with rfl | hl
      · rw [Cy.cons, swp_y hxy]
        exact st_swp xA yA c1
      · have hx : x ∉ l := fun hx => hn.1.2.2.2 ⟨l, hl, hx⟩
        have hy : y ∉ l := fun hy => hn.2.2.1.1.2 ⟨l, hl, hy⟩
        exact cy_swp hx hy (h.cy l (.tail _ hl))
  · simp only [List.flatten_cons, List.cons_append, List.append_assoc]
    refine List.Perm.cons x ?_
    have h1 : (B ++ y :: (A ++ C.flatten)).Perm (y :: (B ++ (A ++ C.flatten))) := List.perm_middle
    have h2 : (A ++ y :: (B ++ C.flatten)).Perm (y :: (A ++ (B ++ C.flatten))) := List.perm_middle
    refine h1.trans ((List.Perm.cons y ?_).trans h2.symm)
    rw [← List.append_assoc, ← List.append_assoc]
    exact List.perm_append_comm.append_right _
/-- one cycle more, or one less -/
theorem Dec.swap {p : α → α} {ds : List α} {C : List (List α)} {x y : α} (h : Dec p ds C) (hx : x ∈ ds) (hy : y ∈ ds) (hxy : x ≠ y) :
    ∃ C', Dec (swp p x y) ds C' ∧ (C'.length = C.length + 1 ∨ C'.length + 1 = C.length) := by
  obtain ⟨A, l, rest, _, hC, h1⟩ := h.front hx
  have hlen : C.length = rest.length + 1 := by simpa using hC.length_eq
  have hy1 := h1.perm.mem_iff.2 hy
  simp only [List.flatten_cons, List.cons_append, List.mem_cons, Ne.symm hxy, false_or, List.mem_append] at hy1
  rcases hy1 with hy1 | hy1
  · obtain ⟨a, b, rfl⟩ := List.append_of_mem hy1
    exact ⟨_, h1.split, .inl (by simp [hlen])⟩
  · obtain ⟨m, hm, hym⟩ := List.mem_flatten.1 hy1
    obtain ⟨r1, r2, rfl⟩ := List.append_of_mem hm
    obtain ⟨a, b, rfl⟩ := List.append_of_mem hym
    have h2 : Dec p ds ((a ++ y :: b) :: (x :: A) :: (r1 ++ r2)) := h1.order ((List.Perm.cons _ List.perm_middle).trans (List.Perm.swap _ _ _))
    have h3 := h2.rot.order (List.Perm.swap _ _ _)
    rw [List.cons_append] at h3
    exact ⟨_, h3.merge, .inr (by simp [hlen]; omega)⟩
def tr (F : α → α) (d : α) : Nat → α → List α
  | 0, _ => []
  | n + 1, x => x :: if F x = d then [] else tr F d n (F x)
/-- on the way -/
structure InF (F : α → α) (ds : List α) (out : List (List α)) (d : α) (f : List α) (x : α) : Prop where
  st : st F f d x
  nd : f.Nodup
  sub : ∀ z ∈ f, z ∈ ds
  new : ∀ z ∈ f, z ∉ out.flatten
  mem : x ∈ ds
  far : x ∉ out.flatten
section
variable {F : α → α} {ds : List α} {out : List (List α)} {d x : α} {f : List α}
theorem st_pred : ∀ {l : List α} {s t z : α}, st F l s t → z ∈ l → z = s ∨ ∃ w ∈ l.dropLast, F w = z
  | a :: l, s, t, z, ⟨h1, h2⟩, hz => by
    rcases List.mem_cons.1 hz with rfl | hz
    · exact .inl h1.symm
    · right
      cases l with
      | nil => simp at hz
      | cons b l =>
        rcases st_pred h2 hz with e | ⟨w, hw, e⟩
        · exact ⟨a, by simp, e.symm⟩
        · exact ⟨w, by simp [hw], e⟩
theorem st_last : ∀ {l : List α} {s t : α} (h : l ≠ []), st F l s t → F (l.getLast h) = t
  | [a], s, t, h, ⟨_, h2⟩ => h2
  | a :: b :: l, s, t, h, ⟨_, h2⟩ => by
    rw [List.getLast_cons (by simp)]
    exact st_last (by simp) h2
/-- what was met is the way's beginning -/
theorem InF.met (h : InF F ds out d f x) (hi : ∀ a ∈ ds, ∀ b ∈ ds, F a = F b → a = b) (hx : x ∈ f) : x = d := by
  rcases st_pred h.st hx with e | ⟨w, hw, e⟩
  · exact e
  · exfalso
    have hne : f ≠ [] := fun e => by rw [e] at hx; simp at hx
    have hl := st_last hne h.st
    have e2 : w = f.getLast hne := hi _ (h.sub _ (List.dropLast_subset _ hw)) _ (h.sub _ (List.getLast_mem _)) (e.trans hl.symm)
    have := h.nd
    rw [← List.dropLast_concat_getLast hne, List.nodup_append] at this
    exact this.2.2 w hw (f.getLast hne) (by simp) e2
theorem InF.more (h : InF F ds out d f x) (hi : ∀ a ∈ ds, ∀ b ∈ ds, F a = F b → a = b) (hm : ∀ a ∈ ds, F a ∈ ds) (hc : ∀ l ∈ out, Cy F l) (ho : ∀ z ∈ out.flatten, z ∈ ds) (hne : f = [] ∨ x ≠ d) : x ∉ f ∧ InF F ds out d (f ++ [x]) (F x) := by
  have hx : x ∉ f := fun hx => by
    rcases hne with rfl | hne
    · simp at hx
    · exact hne (h.met hi hx)
  refine ⟨hx, st_app.2 ⟨x, h.st, rfl, rfl⟩, List.nodup_append.2 ⟨h.nd, by simp, fun a ha b hb e => by
    obtain rfl : b = x := by simpa using hb
    exact hx (e ▸ ha)⟩, fun z hz => ?_, fun z hz => ?_, hm _ h.mem, fun hf => ?_⟩
  · rcases List.mem_append.1 hz with hz | hz
    · exact h.sub z hz
    · obtain rfl : z = x := by simpa using hz
      exact h.mem
  · rcases List.mem_append.1 hz with hz | hz
    · exact h.new z hz
    · obtain rfl : z = x := by simpa using hz
      exact h.far
  · obtain ⟨l, hl, hz⟩ := List.mem_flatten.1 hf
    refine h.far ?_
    have hc1 := hc l hl
    obtain ⟨l1, l2, rfl⟩ := List.append_of_mem hz
    have hr := hc1.rot
    rw [List.cons_append] at hr
    have hs : Fil.st F (F x :: (l2 ++ l1)) (F x) (F x) := ⟨rfl, Cy.cons.1 hr⟩
    have hlast := st_last (by simp) hs
    have hmem : (F x :: (l2 ++ l1)).getLast (by simp) ∈ l1 ++ F x :: l2 := by
      have := List.getLast_mem (l := F x :: (l2 ++ l1)) (by simp)
      simp only [List.mem_cons, List.mem_append] at this ⊢
      rcases this with h | h | h
      · exact .inr (.inl h)
      · exact .inr (.inr h)
      · exact .inl h
    have hin : (F x :: (l2 ++ l1)).getLast (by simp) ∈ out.flatten := List.mem_flatten.2 ⟨_, hl, hmem⟩
    rwa [hi _ (ho _ hin) _ h.mem hlast] at hin
theorem InF.room (h : InF F ds out d f x) (hx : x ∉ f) : f.length + 1 ≤ ds.length := by
  have : (f ++ [x]).Nodup := List.nodup_append.2 ⟨h.nd, by simp, fun a ha b hb e => by
    obtain rfl : b = x := by simpa using hb
    exact hx (e ▸ ha)⟩
  have := sub_length this fun z hz => by
    rcases List.mem_append.1 hz with hz | hz
    · exact h.sub z hz
    · obtain rfl : z = x := by simpa using hz
      exact h.mem
  simpa using this
/-- the whole way -/
theorem InF.all (hi : ∀ a ∈ ds, ∀ b ∈ ds, F a = F b → a = b) (hm : ∀ a ∈ ds, F a ∈ ds) (hc : ∀ l ∈ out, Cy F l) (ho : ∀ z ∈ out.flatten, z ∈ ds) : ∀ (n : Nat) {f : List α} {x : α}, InF F ds out d f x → (f = [] ∨ x ≠ d) → ds.length ≤ f.length + n →
    InF F ds out d (f ++ tr F d n x) d ∧ f ++ tr F d n x ≠ []
  | 0, f, x, h, hne, hn => by
    have := h.room (h.more hi hm hc ho hne).1
    omega
  | n + 1, f, x, h, hne, hn => by
    obtain ⟨_, h1⟩ := h.more hi hm hc ho hne
    rw [tr]
    split
    · rename_i e
      rw [e] at h1
      exact ⟨h1, by simp⟩
    · rename_i e
      have := InF.all hi hm hc ho n h1 (.inr e) (by simp; omega)
      simp only [List.append_assoc, List.cons_append, List.nil_append] at this
      exact this
end
def facesStep (F : α → α) (n : Nat) (out : List (List α)) (d : α) : List (List α) := if d ∈ out.flatten then out else out ++ [tr F d n d]
def facesL (F : α → α) (n : Nat) (ds : List α) : List (List α) := ds.foldl (facesStep F n) []
structure Fs (F : α → α) (ds : List α) (out : List (List α)) : Prop where
  cy : ∀ l ∈ out, Cy F l
  nd : out.flatten.Nodup
  sub : ∀ z ∈ out.flatten, z ∈ ds
theorem Fs.start {F : α → α} {ds : List α} {out : List (List α)} {d : α} (h : Fs F ds out) (hd : d ∈ ds) (hf : d ∉ out.flatten) : InF F ds out d [] d := ⟨rfl, by simp, by simp, by simp, hd, hf⟩
theorem Fs.step {F : α → α} {ds : List α} {out : List (List α)} {d : α} {n : Nat} (hi : ∀ a ∈ ds, ∀ b ∈ ds, F a = F b → a = b) (hm : ∀ a ∈ ds, F a ∈ ds) (hn : ds.length ≤ n) (h : Fs F ds out) (hd : d ∈ ds) :
    Fs F ds (facesStep F n out d) ∧ d ∈ (facesStep F n out d).flatten ∧ ∀ z ∈ out.flatten, z ∈ (facesStep F n out d).flatten := by
  unfold facesStep
  split
  · rename_i hf
    exact ⟨h, hf, fun _ h => h⟩
  · rename_i hf
    obtain ⟨h1, hne⟩ := InF.all hi hm h.cy h.sub n (h.start hd hf) (.inl rfl) (by simpa using hn)
    simp only [List.nil_append] at h1 hne
    have hdin : d ∈ tr F d n d := by
      cases n with
      | zero => simp [tr] at hne
      | succ n => simp [tr]
    refine ⟨⟨fun l hl => ?_, ?_, fun z hz => ?_⟩, ?_, fun z hz => ?_⟩
    · rcases List.mem_append.1 hl with hl | hl
      · exact h.cy l hl
      · obtain rfl : l = tr F d n d := by simpa using hl
        exact ⟨hne, d, h1.st⟩
    · rw [List.flatten_append, List.nodup_append]
      refine ⟨h.nd, by simpa using h1.nd, fun a ha b hb e => ?_⟩
      simp only [List.flatten_cons, List.flatten_nil, List.append_nil] at hb
      exact h1.new b hb (e ▸ ha)
    · rw [List.flatten_append, List.mem_append] at hz
      rcases hz with hz | hz
      · exact h.sub z hz
      · exact h1.sub z (by simpa using hz)
    · simp [hdin]
    · rw [List.flatten_append, List.mem_append]
      exact .inl hz
theorem Fs.fold {F : α → α} {ds : List α} {n : Nat} (hi : ∀ a ∈ ds, ∀ b ∈ ds, F a = F b → a = b) (hm : ∀ a ∈ ds, F a ∈ ds) (hn : ds.length ≤ n) : ∀ (l : List α) (out : List (List α)), Fs F ds out → (∀ z ∈ l, z ∈ ds) →
    Fs F ds (l.foldl (facesStep F n) out) ∧ (∀ z ∈ l, z ∈ (l.foldl (facesStep F n) out).flatten) ∧ ∀ z ∈ out.flatten, z ∈ (l.foldl (facesStep F n) out).flatten
  | [], out, h, _ => ⟨h, by simp, fun _ h => h⟩
  | d :: l, out, h, hl => by
    obtain ⟨h1, h2, h3⟩ := h.step hi hm hn (hl d (.head _))
    obtain ⟨h4, h5, h6⟩ := Fs.fold hi hm hn l _ h1 fun z hz => hl z (.tail _ hz)
    exact ⟨h4, fun z hz => (List.mem_cons.1 hz).elim (fun e => h6 _ (e ▸ h2)) (h5 z), fun z hz => h6 z (h3 z hz)⟩
theorem faces_dec {F : α → α} {ds : List α} {n : Nat} (hd : ds.Nodup) (hi : ∀ a ∈ ds, ∀ b ∈ ds, F a = F b → a = b) (hm : ∀ a ∈ ds, F a ∈ ds) (hn : ds.length ≤ n) : Dec F ds (facesL F n ds) := by
  obtain ⟨h1, h2, _⟩ := Fs.fold hi hm hn ds [] ⟨by simp, by simp, by simp⟩ fun _ h => h
  exact ⟨hd, h1.cy, perm_of_nodup h1.nd hd fun z => ⟨h1.sub z, h2 z⟩⟩
end
end Fil
end
section
set_option linter.unusedVariables false
set_option linter.unusedSectionVars false
namespace Fil
def rev (d : (Nat × Nat)) : (Nat × Nat) := (d.2, d.1)
/-- the one behind, around -/
def cyc (l : List Nat) (u : Nat) : Nat := l.getD ((l.idxOf u + 1) % l.length) 0
def sg (R : Nat → List Nat) (d : (Nat × Nat)) : (Nat × Nat) := (d.1, cyc (R d.1) d.2)
def nxt (R : Nat → List Nat) (d : (Nat × Nat)) : (Nat × Nat) := (d.2, cyc (R d.2) d.1)
def vc (R : Nat → List Nat) (v : Nat) : List (Nat × Nat) := (R v).map fun u => (v, u)
def dartsOf (R : Nat → List Nat) (c : List Nat) : List (Nat × Nat) := c.flatMap (vc R)
structure Sys (l : List (Nat × Nat)) (R : Nat → List Nat) : Prop where
  nd : ∀ v, (R v).Nodup
  ed : ∀ u v, u ∈ R v ↔ (v, u) ∈ l ∨ (u, v) ∈ l
  lt : ∀ e ∈ l, e.1 < e.2
  ndl : l.Nodup
theorem cyc_at {l : List Nat} (h : l.Nodup) {i : Nat} (hi : i < l.length) : cyc l l[i] = l[(i + 1) % l.length]'(Nat.mod_lt _ (by omega)) := by
  have hm : (i + 1) % l.length < l.length := Nat.mod_lt _ (by omega)
  rw [cyc, h.idxOf_getElem i hi, List.getD_eq_getElem?_getD, List.getElem?_eq_getElem hm, Option.getD_some]
theorem cyc_mem {l : List Nat} {u : Nat} (hu : u ∈ l) : cyc l u ∈ l := by
  have hm : (l.idxOf u + 1) % l.length < l.length := Nat.mod_lt _ (List.length_pos_of_mem hu)
  rw [cyc, List.getD_eq_getElem?_getD, List.getElem?_eq_getElem hm, Option.getD_some]
  exact List.getElem_mem _
theorem cyc_inj {l : List Nat} (h : l.Nodup) {a b : Nat} (ha : a ∈ l) (hb : b ∈ l) (e : cyc l a = cyc l b) : a = b := by
  obtain ⟨i, hi, rfl⟩ := List.getElem_of_mem ha
  obtain ⟨j, hj, rfl⟩ := List.getElem_of_mem hb
  rw [cyc_at h hi, cyc_at h hj] at e
  have := congrArg l.idxOf e
  rw [h.idxOf_getElem, h.idxOf_getElem] at this
  have hi' : (i + 1) % l.length = if i + 1 = l.length then 0 else i + 1 := by
    split
    · rename_i h; rw [h, Nat.mod_self]
    · exact Nat.mod_eq_of_lt (by omega)
  have hj' : (j + 1) % l.length = if j + 1 = l.length then 0 else j + 1 := by
    split
    · rename_i h; rw [h, Nat.mod_self]
    · exact Nat.mod_eq_of_lt (by omega)
  rw [hi', hj'] at this
  have hij : i = j := by
    split at this <;> split at this <;> omega
  subst hij
  rfl
theorem st_of_steps {α : Type} {p : α → α} : ∀ {l : List α} {t : α} (hl : l ≠ []), (∀ i (h : i + 1 < l.length), p l[i] = l[i + 1]) → p (l.getLast hl) = t → st p l (l.head hl) t
  | [a], t, hl, h, ht => ⟨rfl, ht⟩
  | a :: b :: l, t, hl, h, ht => by
    refine ⟨rfl, ?_⟩
    have h0 := h 0 (by simp)
    simp only [List.getElem_cons_zero, List.getElem_cons_succ, Nat.zero_add] at h0
    rw [h0]
    refine st_of_steps (l := b :: l) (by simp) (fun i hi => ?_) (by rwa [List.getLast_cons (by simp)] at ht)
    have := h (i + 1) (by simp at hi ⊢; omega)
    simpa using this
theorem cyc_cy {l : List Nat} (h : l.Nodup) (hl : l ≠ []) : Cy (cyc l) l := by
  refine ⟨hl, l.head hl, st_of_steps hl (fun i hi => ?_) ?_⟩
  · rw [cyc_at h (by omega)]
    congr 1
    exact Nat.mod_eq_of_lt hi
  · have hp : 0 < l.length := List.length_pos_iff.2 hl
    rw [List.getLast_eq_getElem, cyc_at h (by omega), List.head_eq_getElem]
    congr 1
    rw [Nat.sub_add_cancel hp, Nat.mod_self]
theorem vc_cy {l : List (Nat × Nat)} {R : Nat → List Nat} (hS : Sys l R) {v : Nat} (hv : R v ≠ []) : Cy (sg R) (vc R v) := by
  obtain ⟨_, s, h⟩ := cyc_cy (hS.nd v) hv
  exact ⟨by simpa [vc] using hv, (v, s), st_map (f := fun u => (v, u)) (fun a _ => rfl) h⟩
theorem mem_vc {R : Nat → List Nat} {v : Nat} {d : (Nat × Nat)} : d ∈ vc R v ↔ d.1 = v ∧ d.2 ∈ R v := by
  rw [vc, List.mem_map]
  exact ⟨fun ⟨u, hu, e⟩ => e ▸ ⟨rfl, hu⟩, fun ⟨e, h⟩ => ⟨d.2, h, by rw [← e]⟩⟩
theorem mem_darts {R : Nat → List Nat} {c : List Nat} {d : (Nat × Nat)} : d ∈ dartsOf R c ↔ d.1 ∈ c ∧ d.2 ∈ R d.1 := by
  rw [dartsOf, List.mem_flatMap]
  exact ⟨fun ⟨v, hv, h⟩ => by obtain ⟨e, h⟩ := mem_vc.1 h; rw [e]; exact ⟨hv, h⟩, fun ⟨h1, h2⟩ => ⟨d.1, h1, mem_vc.2 ⟨rfl, h2⟩⟩⟩
theorem darts_nodup {l : List (Nat × Nat)} {R : Nat → List Nat} (hS : Sys l R) : ∀ {c : List Nat}, c.Nodup → (dartsOf R c).Nodup
  | [], _ => by simp [dartsOf]
  | v :: c, h => by
    rw [List.nodup_cons] at h
    rw [dartsOf, List.flatMap_cons, List.nodup_append]
    refine ⟨?_, darts_nodup hS h.2, fun a ha b hb e => ?_⟩
    · rw [vc, List.Nodup, List.pairwise_map]
      exact (hS.nd v).imp fun h e => h (Prod.mk.inj e).2
    · subst e
      have h1 := (mem_vc.1 ha).1
      have h2 := (mem_darts.1 hb).1
      exact h.1 (h1 ▸ h2)
theorem Sys.sym {l : List (Nat × Nat)} {R : Nat → List Nat} (hS : Sys l R) {u v : Nat} (h : u ∈ R v) : v ∈ R u := (hS.ed v u).2 ((hS.ed u v).1 h).symm
theorem Sys.ne {l : List (Nat × Nat)} {R : Nat → List Nat} (hS : Sys l R) {u v : Nat} (h : u ∈ R v) : u ≠ v := by
  rcases (hS.ed u v).1 h with h | h <;> have := hS.lt _ h <;> simp at this <;> omega
/-- around the vertices, but over these edges -/
def pS (R : Nat → List Nat) (S : List (Nat × Nat)) (d : (Nat × Nat)) : (Nat × Nat) := if d ∈ S ∨ rev d ∈ S then sg R (rev d) else sg R d
theorem pS_nil (R : Nat → List Nat) (d : (Nat × Nat)) : pS R [] d = sg R d := by simp [pS]
theorem pS_cons {R : Nat → List Nat} {S : List (Nat × Nat)} {a b : Nat} (hab : a ≠ b) (h1 : (a, b) ∉ S) (h2 : (b, a) ∉ S) {e : (Nat × Nat)} (he : e = (a, b) ∨ e = (b, a)) (z : (Nat × Nat)) : pS R (e :: S) z = swp (pS R S) (a, b) (b, a) z := by
  have x1 : pS R S (a, b) = sg R (a, b) := if_neg (by simp [rev, h1, h2])
  have x2 : pS R S (b, a) = sg R (b, a) := if_neg (by simp [rev, h1, h2])
  have hne : ((a, b) : (Nat × Nat)) ≠ (b, a) := fun e => hab (Prod.mk.inj e).1
  by_cases hz1 : z = (a, b)
  · subst hz1
    rw [swp_x, x2, pS, if_pos]
    · rfl
    · rcases he with rfl | rfl <;> simp [rev]
  · by_cases hz2 : z = (b, a)
    · subst hz2
      rw [swp_y hne, x1, pS, if_pos]
      · rfl
      · rcases he with rfl | rfl <;> simp [rev]
    · rw [swp_o hz1 hz2]
      have hr1 : rev z ≠ (a, b) := fun e => hz2 (by rw [rev] at e; have := Prod.mk.inj e; exact Prod.ext this.2 this.1)
      have hr2 : rev z ≠ (b, a) := fun e => hz1 (by rw [rev] at e; have := Prod.mk.inj e; exact Prod.ext this.2 this.1)
      rcases he with rfl | rfl <;> simp [pS, hz1, hz2, hr1, hr2]
/-- each vertex but the first is next to one ahead -/
def Grow (R : Nat → List Nat) (c : List Nat) : Prop := ∀ A w B, c = A ++ w :: B → A ≠ [] → ∃ v ∈ A, w ∈ R v
structure Tree (l : List (Nat × Nat)) (R : Nat → List Nat) (c : List Nat) (k : Nat) (S : List (Nat × Nat)) (big : List (Nat × Nat)) : Prop where
  nd : S.Nodup
  inl : ∀ e ∈ S, e ∈ l ∧ e.1 ∈ c.take k ∧ e.2 ∈ c.take k
  len : S.length + 1 = k
  dec : Dec (pS R S) (dartsOf R c) (big :: (c.drop k).map (vc R))
  big : ∀ d, d ∈ big ↔ d ∈ dartsOf R (c.take k)
  con : ∀ f : Nat → Nat, (∀ e ∈ S, f e.1 = f e.2) → ∀ u ∈ c.take k, ∀ v ∈ c.take k, f u = f v
theorem tree_one {l : List (Nat × Nat)} {R : Nat → List Nat} {c : List Nat} (hS : Sys l R) (hc : c.Nodup) (hne : ∀ v ∈ c, R v ≠ []) (h1 : c ≠ []) : ∃ S big, Tree l R c 1 S big := by
  obtain ⟨v, c, rfl⟩ := List.exists_cons_of_ne_nil h1
  refine ⟨[], vc R v, by simp, by simp, rfl, ⟨darts_nodup hS hc, fun m hm => ?_, ?_⟩, fun d => by simp [dartsOf], by simp⟩
  · have : ∃ u ∈ v :: c, m = vc R u := by
      rcases List.mem_cons.1 hm with rfl | hm
      · exact ⟨v, .head _, rfl⟩
      · obtain ⟨u, hu, rfl⟩ := List.mem_map.1 hm
        exact ⟨u, List.mem_cons_of_mem _ (by simpa using hu), rfl⟩
    obtain ⟨u, hu, rfl⟩ := this
    exact (vc_cy hS (hne u hu)).congr fun a _ => (pS_nil R a).symm
  · simp [dartsOf, List.flatMap_def]
theorem tree_more {l : List (Nat × Nat)} {R : Nat → List Nat} {c : List Nat} {k : Nat} (hS : Sys l R) (hc : c.Nodup) (hg : Grow R c) (h1 : 1 ≤ k) (hk : k < c.length) {S big : List (Nat × Nat)} (h : Tree l R c k S big) : ∃ S big, Tree l R c (k + 1) S big := by
  have hsp : c = c.take k ++ c[k] :: c.drop (k + 1) := by rw [List.getElem_cons_drop, List.take_append_drop]
  generalize hw : c[k] = w at hsp
  obtain ⟨v, hv, hwv⟩ := hg _ _ _ hsp (by
    intro e
    have := congrArg List.length e
    rw [List.length_take, List.length_nil] at this; omega)
  have hvw := hS.sym hwv
  have hne := hS.ne hwv
  have hwn : w ∉ c.take k := fun hh => by
    rw [hsp, List.nodup_append] at hc
    exact hc.2.2 w hh w (.head _) rfl
  have hd : c.drop k = w :: c.drop (k + 1) := by rw [← hw, List.getElem_cons_drop]
  have ht : c.take (k + 1) = c.take k ++ [w] := by rw [List.take_add_one, List.getElem?_eq_getElem hk, hw]; rfl
  have hdec := h.dec
  rw [hd, List.map_cons] at hdec
  have hx : (v, w) ∈ big := (h.big _).2 (mem_darts.2 ⟨hv, hwv⟩)
  have hy : (w, v) ∈ vc R w := mem_vc.2 ⟨rfl, hvw⟩
  obtain ⟨a1, b1, e1⟩ := List.append_of_mem hx
  obtain ⟨a2, b2, e2⟩ := List.append_of_mem hy
  have hbig := h.big
  rw [e1, e2] at hdec
  have h2 := hdec.rot.order (List.Perm.swap _ _ _)
  have h3 := h2.rot.order (List.Perm.swap _ _ _)
  rw [List.cons_append, List.cons_append] at h3
  have h4 := h3.merge
  have hn1 : (v, w) ∉ S := fun hh => hwn (h.inl _ hh).2.2
  have hn2 : (w, v) ∉ S := fun hh => hwn (h.inl _ hh).2.1
  obtain ⟨e, he, hel⟩ : ∃ e : (Nat × Nat), (e = (v, w) ∨ e = (w, v)) ∧ e ∈ l := by
    rcases (hS.ed w v).1 hwv with h | h
    · exact ⟨_, .inl rfl, h⟩
    · exact ⟨_, .inr rfl, h⟩
  refine ⟨e :: S, _, List.nodup_cons.2 ⟨?_, h.nd⟩, fun f hf => ?_, by simp [h.len], h4.congr fun d _ => (pS_cons (Ne.symm hne) hn1 hn2 he d).symm, fun d => ?_, fun f hf => ?_⟩
  · rcases he with rfl | rfl
    · exact hn1
    · exact hn2
  · rw [ht]
    rcases List.mem_cons.1 hf with rfl | hf
    · refine ⟨hel, ?_⟩
      rcases he with rfl | rfl <;> simp [hv]
    · obtain ⟨i1, i2, i3⟩ := h.inl f hf
      exact ⟨i1, List.mem_append.2 (.inl i2), List.mem_append.2 (.inl i3)⟩
  · have hb := h.big d
    have hv2 : d ∈ vc R w ↔ d ∈ a2 ++ (w, v) :: b2 := by rw [e2]
    rw [ht, dartsOf, List.flatMap_append, List.mem_append, ← dartsOf, ← hb, e1]
    simp only [List.flatMap_cons, List.flatMap_nil, List.append_nil, hv2, List.mem_append, List.mem_cons]
    constructor
    · rintro (h | (h | h) | h | h | h) <;> simp [h]
    · rintro ((h | h | h) | h | h | h) <;> simp [h]
  · have h5 := h.con f fun e he => hf e (.tail _ he)
    have h6 : f w = f v := by
      have := hf e (.head _)
      rcases he with rfl | rfl
      · exact this.symm
      · exact this
    have h7 : ∀ u ∈ c.take (k + 1), f u = f v := fun u hu => by
      rw [ht] at hu
      rcases List.mem_append.1 hu with hu | hu
      · exact h5 u hu v hv
      · obtain rfl : u = w := by simpa using hu
        exact h6
    exact fun u hu z hz => (h7 u hu).trans (h7 z hz).symm
theorem tree_all {l : List (Nat × Nat)} {R : Nat → List Nat} {c : List Nat} (hS : Sys l R) (hc : c.Nodup) (hg : Grow R c) (hne : ∀ v ∈ c, R v ≠ []) (h1 : c ≠ []) : ∀ k, 1 ≤ k → k ≤ c.length → ∃ S big, Tree l R c k S big := by
  intro k hk
  induction k with
  | zero => omega
  | succ k ih =>
    intro hk2
    by_cases h0 : k = 0
    · subst h0
      exact tree_one hS hc hne h1
    · obtain ⟨S, big, h⟩ := ih (by omega) (by omega)
      exact tree_more hS hc hg (by omega) (by omega) h
theorem rest_all {l : List (Nat × Nat)} {R : Nat → List Nat} {c : List Nat} {S : List (Nat × Nat)} (hS : Sys l R) (hcl : ∀ v ∈ c, ∀ u ∈ R v, u ∈ c) {C : List (List (Nat × Nat))} (h : Dec (pS R S) (dartsOf R c) C) : ∀ (L : List (Nat × Nat)), L.Nodup → (∀ e ∈ L, e ∈ l ∧ e ∉ S ∧ rev e ∉ S ∧ e.1 ∈ c) →
    ∃ C' g, Dec (pS R (L ++ S)) (dartsOf R c) C' ∧ C'.length + 2 * g = C.length + L.length
  | [], _, _ => ⟨C, 0, h, by simp⟩
  | e :: L, hn, hL => by
    rw [List.nodup_cons] at hn
    obtain ⟨C1, g, h1, h2⟩ := rest_all hS hcl h L hn.2 fun f hf => hL f (.tail _ hf)
    obtain ⟨i1, i2, i3, i4⟩ := hL e (.head _)
    have hlt := hS.lt _ i1
    have m1 : e.2 ∈ R e.1 := (hS.ed _ _).2 (.inl i1)
    have hx : (e.1, e.2) ∈ dartsOf R c := mem_darts.2 ⟨i4, m1⟩
    have hy : (e.2, e.1) ∈ dartsOf R c := mem_darts.2 ⟨hcl _ i4 _ m1, hS.sym m1⟩
    have hne : ((e.1, e.2) : (Nat × Nat)) ≠ (e.2, e.1) := fun h => by have := (Prod.mk.inj h).1; omega
    obtain ⟨C2, h3, h4⟩ := h1.swap hx hy hne
    have hn1 : (e.1, e.2) ∉ L ++ S := fun hh => (List.mem_append.1 hh).elim hn.1 i2
    have hn2 : (e.2, e.1) ∉ L ++ S := fun hh => (List.mem_append.1 hh).elim (fun hh => by
      have := hS.lt _ (hL _ (.tail _ hh)).1
      simp at this; omega) i3
    have hdec : Dec (pS R (e :: L ++ S)) (dartsOf R c) C2 := h3.congr fun d _ => (pS_cons (by omega) hn1 hn2 (.inl rfl) d).symm
    rcases h4 with h4 | h4
    · exact ⟨C2, g, hdec, by simp only [List.length_cons]; omega⟩
    · exact ⟨C2, g + 1, hdec, by simp only [List.length_cons]; omega⟩
/-- of a component: vertices and faces are two more than edges, or so much less that is even -/
theorem genus {l : List (Nat × Nat)} {R : Nat → List Nat} {c : List Nat} (hS : Sys l R) (hc : c.Nodup) (hcl : ∀ v ∈ c, ∀ u ∈ R v, u ∈ c) (hg : Grow R c) (hne : ∀ v ∈ c, R v ≠ []) (h1 : c ≠ []) :
    ∃ C g, Dec (nxt R) (dartsOf R c) C ∧ C.length + c.length + 2 * g = (l.filter fun e => decide (e.1 ∈ c)).length + 2 := by
  have hpos := List.length_pos_iff.2 h1
  obtain ⟨S, big, hT⟩ := tree_all hS hc hg hne h1 c.length hpos (Nat.le_refl _)
  have hdec := hT.dec
  rw [List.drop_length, List.map_nil] at hdec
  have hin := hT.inl
  rw [List.take_length] at hin
  have hrev : ∀ e ∈ l, rev e ∉ S := fun e he h => by
    have h1 := hS.lt _ he
    have h2 := hS.lt _ (hin _ h).1
    simp [rev] at h2; omega
  obtain ⟨C, g, h2, h3⟩ := rest_all hS hcl hdec (l.filter fun e => decide (e.1 ∈ c) && !decide (e ∈ S)) (hS.ndl.sublist List.filter_sublist) fun e he => by
    obtain ⟨i1, i2⟩ := List.mem_filter.1 he
    simp at i2
    exact ⟨i1, i2.2, hrev e i1, i2.1⟩
  have hlen : (l.filter fun e => decide (e.1 ∈ c) && !decide (e ∈ S)).length + S.length = (l.filter fun e => decide (e.1 ∈ c)).length := by
    have hp : ((l.filter fun e => decide (e.1 ∈ c) && !decide (e ∈ S)) ++ S).Perm (l.filter fun e => decide (e.1 ∈ c)) := by
      refine perm_of_nodup (List.nodup_append.2 ⟨hS.ndl.sublist List.filter_sublist, hT.nd, fun a ha b hb e => ?_⟩) (hS.ndl.sublist List.filter_sublist) fun a => ?_
      · subst e
        have := (List.mem_filter.1 ha).2
        simp at this
        exact this.2 hb
      · simp only [List.mem_append, List.mem_filter, Bool.and_eq_true, decide_eq_true_eq, Bool.not_eq_true', decide_eq_false_iff_not]
        constructor
        · rintro (h | h)
          · exact ⟨h.1, h.2.1⟩
          · exact ⟨(hin a h).1, (hin a h).2.1⟩
        · intro h
          by_cases ha : a ∈ S
          · exact .inr ha
          · exact .inl ⟨h.1, h.2, ha⟩
    have := hp.length_eq
    simpa using this
  refine ⟨C, g, h2.congr fun d hd => ?_, ?_⟩
  · obtain ⟨j1, j2⟩ := mem_darts.1 hd
    rw [pS, if_pos]
    · rfl
    · by_cases hdS : d ∈ S
      · exact .inl (List.mem_append.2 (.inr hdS))
      · rcases (hS.ed _ _).1 j2 with h | h
        · exact .inl (List.mem_append.2 (.inl (List.mem_filter.2 ⟨h, by simp [hdS, j1]⟩)))
        · by_cases hr : rev d ∈ S
          · exact .inr (List.mem_append.2 (.inr hr))
          · exact .inr (List.mem_append.2 (.inl (List.mem_filter.2 ⟨h, by simp [hr]; exact hcl _ j1 _ j2⟩)))
  · have := hT.len
    simp only [List.length_cons, List.length_nil] at h3
    omega
theorem nxt_inj {l : List (Nat × Nat)} {R : Nat → List Nat} {c : List Nat} (hS : Sys l R) : ∀ a ∈ dartsOf R c, ∀ b ∈ dartsOf R c, nxt R a = nxt R b → a = b := by
  intro a ha b hb e
  obtain ⟨e1, e2⟩ := Prod.mk.inj e
  rw [← e1] at e2
  have m1 := hS.sym (mem_darts.1 ha).2
  have m2 := hS.sym (mem_darts.1 hb).2
  rw [← e1] at m2
  exact Prod.ext (cyc_inj (hS.nd _) m1 m2 e2) e1
theorem nxt_mem {l : List (Nat × Nat)} {R : Nat → List Nat} {c : List Nat} (hS : Sys l R) (hcl : ∀ v ∈ c, ∀ u ∈ R v, u ∈ c) : ∀ a ∈ dartsOf R c, nxt R a ∈ dartsOf R c := by
  intro a ha
  obtain ⟨h1, h2⟩ := mem_darts.1 ha
  exact mem_darts.2 ⟨hcl _ h1 _ h2, cyc_mem (hS.sym h2)⟩
theorem filter_flat {α : Type} (q : List α → Bool) : ∀ (C : List (List α)), (C.filter q).flatten.Sublist C.flatten
  | [] => .slnil
  | l :: C => by
    rw [List.filter_cons]
    split
    · exact (List.Sublist.refl l).append (filter_flat q C)
    · exact (filter_flat q C).trans (List.sublist_append_right _ _)
/-- the faces of a component are those among all that begin in it -/
theorem faces_in {l : List (Nat × Nat)} {R : Nat → List Nat} {c a : List Nat} {C : List (List (Nat × Nat))} (hS : Sys l R) (hc : c.Nodup) (hcl : ∀ v ∈ c, ∀ u ∈ R v, u ∈ c) (hca : ∀ v ∈ c, v ∈ a) (h : Dec (nxt R) (dartsOf R a) C) :
    Dec (nxt R) (dartsOf R c) (C.filter fun f => decide ((f.headD (0, 0)).1 ∈ c)) := by
  have hside : ∀ f ∈ C, ∀ d ∈ f, (d.1 ∈ c ↔ (f.headD (0, 0)).1 ∈ c) := fun f hf d hd => by
    have hcy := h.cy f hf
    have hin : ∀ z ∈ f, z.2 ∈ R z.1 := fun z hz => (mem_darts.1 (h.perm.mem_iff.1 (List.mem_flatten.2 ⟨f, hf, hz⟩))).2
    have key : ∀ x ∈ f, x.1 ∈ c → ∀ z ∈ f, z.1 ∈ c := fun x hx hxc z hz =>
      (hcy.in (p := nxt R) (S := fun z => z.1 ∈ c ∧ z.2 ∈ R z.1) (fun z hz => ⟨hcl _ hz.1 _ hz.2, cyc_mem (hS.sym hz.2)⟩) hx ⟨hxc, hin x hx⟩ z hz).1
    have hh : f.headD (0, 0) ∈ f := by
      cases f with
      | nil => simp at hd
      | cons x f => simp
    exact ⟨fun h1 => key d hd h1 _ hh, fun h1 => key _ hh h1 d hd⟩
  have hnd : C.flatten.Nodup := h.perm.nodup_iff.2 h.nd
  refine ⟨darts_nodup hS hc, fun f hf => h.cy f (List.mem_filter.1 hf).1, perm_of_nodup (hnd.sublist (filter_flat _ C)) (darts_nodup hS hc) fun d => ?_⟩
  rw [List.mem_flatten, mem_darts]
  constructor
  · rintro ⟨f, hf, hd⟩
    obtain ⟨h1, h2⟩ := List.mem_filter.1 hf
    exact ⟨(hside f h1 d hd).2 (by simpa using h2), (mem_darts.1 (h.perm.mem_iff.1 (List.mem_flatten.2 ⟨f, h1, hd⟩))).2⟩
  · rintro ⟨h1, h2⟩
    obtain ⟨f, hf, hd⟩ := List.mem_flatten.1 (h.perm.mem_iff.2 (mem_darts.2 ⟨hca _ h1, h2⟩))
    exact ⟨f, List.mem_filter.2 ⟨hf, by simpa using (hside f hf d hd).1 h1⟩, hd⟩
theorem Dec.to {α : Type} {p : α → α} {ds es : List α} {C : List (List α)} (h : Dec p ds C) (hp : ds.Perm es) : Dec p es C := ⟨hp.nodup_iff.1 h.nd, h.cy, h.perm.trans hp⟩
end Fil
end
section
namespace Fil
/-- the lists of those of the labels below i -/
def compsL (N i : Nat) (met : List Bool) (lab : Nat → Nat) : List (List Nat) := ((List.range i).filter fun v => lab v == v).map fun r => (List.range N).filter fun u => met.getD u false && lab u == r
theorem comps_upd {N i : Nat} {met met' : List Bool} {lab lab' : Nat → Nat} (h1 : ∀ u, met.getD u false = true → met'.getD u false = true ∧ lab' u = lab u) (h2 : ∀ u, met'.getD u false = true → met.getD u false = false → lab' u = i) (h3 : ∀ v, v < i → met.getD v false = true) : compsL N i met' lab' = compsL N i met lab := by
  have e1 : (List.range i).filter (fun v => lab' v == v) = (List.range i).filter fun v => lab v == v := by
    apply List.filter_congr
    intro v hv
    rw [(h1 v (h3 v (by simpa using hv))).2]
  rw [compsL, e1, compsL]
  apply List.map_congr_left
  intro r hr
  have hri : r < i := by
    have := (List.mem_filter.1 hr).1
    simpa using this
  apply List.filter_congr
  intro u _
  cases hm : met.getD u false
  · cases hm' : met'.getD u false
    · simp
    · have := h2 u hm' hm
      simp only [Bool.true_and, Bool.false_and, this]
      simp; omega
  · obtain ⟨h4, h5⟩ := h1 u hm
    rw [h4, h5]
theorem comps_next {N i : Nat} {met : List Bool} {lab : Nat → Nat} (h : lab i ≠ i) : compsL N (i + 1) met lab = compsL N i met lab := by
  have : (lab i == i) = false := by simpa using h
  rw [compsL, List.range_succ, List.filter_append]
  simp [this, compsL]
/-- a list of just those of label i, sorted -/
theorem sorted_of {N i : Nat} {met : List Bool} {lab : Nat → Nat} {part : List Nat} (hn : part.Nodup) (hp : ∀ u, u ∈ part ↔ u < N ∧ met.getD u false = true ∧ lab u = i) : part.mergeSort (fun x y => decide (x ≤ y)) = (List.range N).filter fun u => met.getD u false && lab u == i := by
  refine List.Perm.eq_of_pairwise (le := fun a b => a ≤ b) (fun a b _ _ h1 h2 => Nat.le_antisymm h1 h2) ?_ ?_ ?_
  · have := List.pairwise_mergeSort (le := fun (x y : Nat) => decide (x ≤ y)) (fun a b c h1 h2 => by simp at *; omega) (fun a b => by simp; omega) part
    exact this.imp fun h => by simpa using h
  · exact (List.pairwise_lt_range.imp fun h => Nat.le_of_lt h).filter _
  · refine (List.mergeSort_perm part _).trans ((List.perm_ext_iff_of_nodup hn (List.nodup_range.filter _)).2 fun u => ?_)
    rw [hp]
    simp
theorem comps_add {N i : Nat} {met : List Bool} {lab : Nat → Nat} {part : List Nat} (hi : lab i = i) (hn : part.Nodup) (hp : ∀ u, u ∈ part ↔ u < N ∧ met.getD u false = true ∧ lab u = i) : compsL N (i + 1) met lab = compsL N i met lab ++ [part.mergeSort fun x y => decide (x ≤ y)] := by
  rw [sorted_of hn hp, compsL, List.range_succ, List.filter_append]
  simp [hi, compsL]
/-- part: just those that were met from i on -/
structure Part (N i : Nat) (met : List Bool) (lab : Nat → Nat) (part : List Nat) : Prop where
  nodup : part.Nodup
  mem : ∀ u, u ∈ part ↔ u < N ∧ met.getD u false = true ∧ lab u = i
  le : ∀ u, met.getD u false = true → lab u ≤ i
theorem Part.start {N i : Nat} {met : List Bool} {lab : Nat → Nat} (hi : i < N) (hl : met.length = N) (hL : ∀ v, met.getD v false = true → lab v < i) : Part N i (met.set i true) (fun x => if x = i then i else lab x) [i] where
  nodup := by simp
  mem u := by
    rw [getD_set]
    by_cases e : u = i
    · subst e; simp [hi, hl]
    · have e' : ¬ i = u := fun h => e h.symm
      simp only [List.mem_singleton, e, e', false_and, if_false, false_iff]
      rintro ⟨h1, h2, h3⟩
      have := hL u h2
      omega
  le u hu := by
    rw [getD_set] at hu
    split
    · exact Nat.le_refl _
    · rename_i e
      rw [if_neg (by omega)] at hu
      exact Nat.le_of_lt (hL u hu)
theorem Part.new {N i u : Nat} {met : List Bool} {lab : Nat → Nat} {part : List Nat} (h : Part N i met lab part) (hu : u < N) (hl : met.length = N) (hm : met.getD u false = false) : Part N i (met.set u true) (fun x => if x = u then i else lab x) (part ++ [u]) where
  nodup := by
    refine List.nodup_append.2 ⟨h.nodup, by simp, ?_⟩
    intro a ha b hb e
    obtain rfl : b = u := by simpa using hb
    subst e
    have := ((h.mem a).1 ha).2.1
    rw [hm] at this; simp at this
  mem x := by
    rw [getD_set, List.mem_append, h.mem]
    by_cases e : x = u
    · subst e; simp [hu, hl]
    · have e' : ¬ u = x := fun h => e h.symm
      simp [e, e']
  le x hx := by
    rw [getD_set] at hx
    split
    · exact Nat.le_refl _
    · rename_i e
      rw [if_neg (by omega)] at hx
      exact h.le x hx
theorem comps_step {N i u : Nat} {met : List Bool} {lab : Nat → Nat} (hm : met.getD u false = false) (h3 : ∀ v, v < i → met.getD v false = true) : compsL N i (met.set u true) (fun x => if x = u then i else lab x) = compsL N i met lab := by
  refine comps_upd (fun x hx => ?_) (fun x hx hx' => ?_) h3
  · have : x ≠ u := fun e => by subst e; rw [hm] at hx; simp at hx
    refine ⟨?_, by simp [this]⟩
    rw [getD_set]
    split <;> first | rfl | exact hx
  · rw [getD_set] at hx
    split at hx
    · rename_i h; simp [h.1]
    · rw [hx'] at hx; simp at hx
theorem Part.length_le {N i : Nat} {met : List Bool} {lab : Nat → Nat} {part : List Nat} (h : Part N i met lab part) : part.length ≤ N := by
  have hp := (List.perm_ext_iff_of_nodup h.nodup (List.nodup_range.filter fun u => met.getD u false && lab u == i) (l₂ := (List.range N).filter fun u => met.getD u false && lab u == i)).2 fun u => by
    rw [h.mem]; simp
  have h1 := hp.length_eq
  have h2 := List.length_filter_le (fun u => met.getD u false && lab u == i) (List.range N)
  rw [List.length_range] at h2
  omega
theorem compsL_length (N i : Nat) (met : List Bool) (lab : Nat → Nat) : (compsL N i met lab).length ≤ i := by
  rw [compsL, List.length_map]
  have := List.length_filter_le (fun v => lab v == v) (List.range i)
  rwa [List.length_range] at this
end Fil
end
section
namespace Fil
theorem RightG.filter {n : Int} {es : List E} (h : RightG n es) (p : E → Bool) : RightG n (es.filter p) where
  lo := h.lo
  hi := h.hi
  many := Nat.le_trans (List.length_filter_le _ _) h.many
  ok e he := h.ok e (List.mem_filter.1 he).1
  sorted := h.sorted.filter _
/-- two ways of labelling are one -/
theorem Lev.lab_eq {N : Nat} {A : Nat → List Nat} {o o' lab lab' : Nat → Nat} (h : Lev N A o lab) (h' : Lev N A o' lab') : ∀ v, v < N → lab v = lab' v := by
  have key : ∀ {o o' lab lab' : Nat → Nat}, Lev N A o lab → Lev N A o' lab' → ∀ v, v < N → lab v ≤ lab' v := by
    intro o o' lab lab' h h' v hv
    have h1 := h'.conn v hv lab (fun w hw u hu => (h.edge w hw u hu).1)
    have h2 := h'.le v hv
    have h3 := h.le (lab' v) (by omega)
    omega
  intro v hv
  exact Nat.le_antisymm (key h h' v hv) (key h' h v hv)
end Fil
end
section
namespace Fil
def relaxL (l : List Nat) (e : Nat × Nat) : List Nat := (l.set e.1 (min (l.getD e.1 0) (l.getD e.2 0))).set e.2 (min (l.getD e.1 0) (l.getD e.2 0))
def rounds (f : List Nat → Nat × Nat → List Nat) (es : List (Nat × Nat)) : Nat → List Nat → List Nat
  | 0, l => l
  | k + 1, l => es.foldl f (rounds f es k l)
/-- what a step keeps and gives, said of values t: where R a b, an exact a gives an exact b -/
structure Relax (N : Nat) (f : List Nat → Nat × Nat → List Nat) (t : Nat → Nat) (es : List (Nat × Nat)) (R : Nat → Nat → Prop) : Prop where
  len : ∀ l e, (f l e).length = l.length
  ge : ∀ l, l.length = N → ∀ e ∈ es, (∀ v, v < N → t v ≤ l.getD v 0) → ∀ v, v < N → t v ≤ (f l e).getD v 0
  le : ∀ l e v, (f l e).getD v 0 ≤ l.getD v 0
  give : ∀ l, l.length = N → ∀ e ∈ es, (∀ v, v < N → t v ≤ l.getD v 0) → ∀ a b, e = (a, b) ∨ e = (b, a) → R a b → l.getD a 0 = t a → (f l e).getD b 0 = t b
theorem Relax.keep {N : Nat} {f : List Nat → Nat × Nat → List Nat} {t : Nat → Nat} {es : List (Nat × Nat)} {R : Nat → Nat → Prop} (h : Relax N f t es R) : ∀ (r : List (Nat × Nat)), (∀ e ∈ r, e ∈ es) → ∀ l, l.length = N → (∀ v, v < N → t v ≤ l.getD v 0) →
    (r.foldl f l).length = N ∧ (∀ v, v < N → t v ≤ (r.foldl f l).getD v 0) ∧ ∀ v, v < N → l.getD v 0 = t v → (r.foldl f l).getD v 0 = t v
  | [], _, l, hl, hg => ⟨hl, hg, fun _ _ h => h⟩
  | e :: r, hr, l, hl, hg => by
    have hg' := h.ge l hl e (hr e (by simp)) hg
    obtain ⟨h1, h2, h3⟩ := h.keep r (fun x hx => hr x (by simp [hx])) (f l e) (by rw [h.len, hl]) hg'
    refine ⟨h1, h2, fun v hv hx => h3 v hv ?_⟩
    have := hg' v hv
    have := h.le l e v
    omega
theorem Relax.gives {N : Nat} {f : List Nat → Nat × Nat → List Nat} {t : Nat → Nat} {es : List (Nat × Nat)} {R : Nat → Nat → Prop} (h : Relax N f t es R) {a b : Nat} (ha : a < N) (hb : b < N) (hR : R a b) : ∀ (r : List (Nat × Nat)), (∀ e ∈ r, e ∈ es) → ∀ l, l.length = N → (∀ v, v < N → t v ≤ l.getD v 0) → ((a, b) ∈ r ∨ (b, a) ∈ r) → l.getD a 0 = t a → (r.foldl f l).getD b 0 = t b
  | [], _, _, _, _, hm, _ => by simp at hm
  | e :: r, hr, l, hl, hg, hm, hx => by
    have hg' := h.ge l hl e (hr e (by simp)) hg
    have hl' : (f l e).length = N := by rw [h.len, hl]
    have hr' : ∀ x ∈ r, x ∈ es := fun x hx => hr x (by simp [hx])
    by_cases he : e = (a, b) ∨ e = (b, a)
    · exact (h.keep r hr' (f l e) hl' hg').2.2 b hb (h.give l hl e (hr e (by simp)) hg a b he hR hx)
    · refine h.gives ha hb hR r hr' (f l e) hl' hg' ?_ ?_
      · rcases hm with hm | hm
        · rcases List.mem_cons.1 hm with h1 | h1
          · exact absurd (.inl h1.symm) he
          · exact .inl h1
        · rcases List.mem_cons.1 hm with h1 | h1
          · exact absurd (.inr h1.symm) he
          · exact .inr h1
      · have := hg' a ha
        have := h.le l e a
        omega
theorem Relax.rounds {N : Nat} {f : List Nat → Nat × Nat → List Nat} {t o : Nat → Nat} {es : List (Nat × Nat)} {R : Nat → Nat → Prop} (h : Relax N f t es R) {l : List Nat} (hl : l.length = N) (hg : ∀ v, v < N → t v ≤ l.getD v 0) (h0 : ∀ v, v < N → o v = 0 → l.getD v 0 = t v)
    (hs : ∀ v k, v < N → o v = k + 1 → ∃ u, u < N ∧ o u = k ∧ R u v ∧ ((u, v) ∈ es ∨ (v, u) ∈ es)) : ∀ k, (Fil.rounds f es k l).length = N ∧ (∀ v, v < N → t v ≤ (Fil.rounds f es k l).getD v 0) ∧ ∀ v, v < N → o v ≤ k → (Fil.rounds f es k l).getD v 0 = t v
  | 0 => ⟨hl, hg, fun v hv hk => h0 v hv (by omega)⟩
  | k + 1 => by
    obtain ⟨h1, h2, h3⟩ := h.rounds hl hg h0 hs k
    obtain ⟨h4, h5, h6⟩ := h.keep es (fun _ h => h) _ h1 h2
    refine ⟨h4, h5, fun v hv hk => ?_⟩
    by_cases e : o v ≤ k
    · exact h6 v hv (h3 v hv e)
    · obtain ⟨u, hu, hok, hR, hm⟩ := hs v k hv (by omega)
      exact h.gives hu hv hR es (fun _ h => h) _ h1 h2 hm (h3 u hu (by omega))
theorem relaxL_at (l : List Nat) (a b v : Nat) (ha : a < l.length) (hb : b < l.length) : (relaxL l (a, b)).getD v 0 = if v = a ∨ v = b then min (l.getD a 0) (l.getD b 0) else l.getD v 0 := by
  simp only [relaxL, getD_set, List.length_set]
  by_cases h1 : b = v
  · subst h1; simp [hb]
  · by_cases h2 : a = v
    · subst h2; simp [h1, ha]
    · have h1' : ¬ v = b := fun e => h1 e.symm
      have h2' : ¬ v = a := fun e => h2 e.symm
      simp [h1, h2, h1', h2']
theorem relaxL_le (l : List Nat) (e : Nat × Nat) (v : Nat) : (relaxL l e).getD v 0 ≤ l.getD v 0 := by
  simp only [relaxL, getD_set, List.length_set]
  split
  · rename_i h; obtain ⟨rfl, _⟩ := h; exact Nat.min_le_right _ _
  · split
    · rename_i h; obtain ⟨rfl, _⟩ := h; exact Nat.min_le_left _ _
    · exact Nat.le_refl _
theorem Good.edge_mem {N : Nat} {es : List (Nat × Nat)} (h : Good N es) {a b : Nat} (he : (a, b) ∈ es) : b ∈ nb es a ∧ a ∈ nb es b := by
  have hl : ∀ e ∈ es, e.1 ≠ e.2 := fun e he => by have := h.lt e he; omega
  rw [mem_nb hl, mem_nb hl]
  exact ⟨.inl he, .inr he⟩
theorem relaxL_ok {N : Nat} {es : List (Nat × Nat)} {o lab : Nat → Nat} (hG : Good N es) (h : Lev N (nb es) o lab) : Relax N relaxL lab es fun _ _ => True where
  len l e := by simp [relaxL]
  le := relaxL_le
  ge l hl e he hg v hv := by
    obtain ⟨a, b⟩ := e
    have := hG.lt _ he
    dsimp only at this
    have ha := hg a (by omega)
    have hb := hg b (by omega)
    have hab := (h.edge a (by omega) b (hG.edge_mem he).1).1
    rw [relaxL_at l a b v (by omega) (by omega)]
    split
    · rename_i hv'
      rcases hv' with rfl | rfl <;> omega
    · exact hg v hv
  give l hl e he hg a b hab _ hx := by
    have key : ∀ x y, (x, y) ∈ es → ((x = a ∧ y = b) ∨ (x = b ∧ y = a)) → (relaxL l (x, y)).getD b 0 = lab b := by
      intro x y hxy hh
      have := hG.lt _ hxy
      dsimp only at this
      have h1 := hg x (by omega)
      have h2 := hg y (by omega)
      have h3 := (h.edge x (by omega) y (hG.edge_mem hxy).1).1
      rw [relaxL_at l x y b (by omega) (by omega)]
      rcases hh with ⟨rfl, rfl⟩ | ⟨rfl, rfl⟩
      · rw [if_pos (.inr rfl)]; omega
      · rw [if_pos (.inl rfl)]; omega
    rcases hab with rfl | rfl
    · exact key a b he (.inl ⟨rfl, rfl⟩)
    · exact key b a he (.inr ⟨rfl, rfl⟩)
theorem list_of_getD {N : Nat} {l : List Nat} {t : Nat → Nat} (hl : l.length = N) (h : ∀ v, v < N → l.getD v 0 = t v) : l = (List.range N).map t := by
  apply List.ext_getElem?
  intro k
  by_cases hk : k < N
  · have := h k hk
    rw [List.getElem?_eq_getElem (by omega)]
    simp only [List.getD_eq_getElem?_getD, List.getElem?_eq_getElem (show k < l.length by omega), Option.getD_some] at this
    simp [hk, this]
  · rw [List.getElem?_eq_none (by omega), List.getElem?_eq_none (by simp; omega)]
theorem Lev.steps {N : Nat} {es : List (Nat × Nat)} {o lab : Nat → Nat} (hG : Good N es) (h : Lev N (nb es) o lab) : ∀ v k, v < N → o v = k + 1 → ∃ u, u < N ∧ o u = k ∧ ((u, v) ∈ es ∨ (v, u) ∈ es) := by
  intro v k hv hk
  obtain ⟨u, hu, hou⟩ := h.up v k hv hk
  have hm := (mem_nb (fun e he => by have := hG.lt e he; omega)).1 hu
  exact ⟨u, hG.adj.lt v hv u hu, hou, hm.symm⟩
theorem ref_labels {N : Nat} {es : List (Nat × Nat)} {o lab : Nat → Nat} (hG : Good N es) (h : Lev N (nb es) o lab) : rounds relaxL es N (List.range N) = (List.range N).map lab := by
  have hgd : ∀ v, v < N → (List.range N).getD v 0 = v := fun v hv => by simp [hv]
  obtain ⟨h1, _, h3⟩ := (relaxL_ok hG h).rounds (o := o) (l := List.range N) (by simp) (fun v hv => by rw [hgd v hv]; exact h.le v hv) (fun v hv h0 => by rw [hgd v hv]; exact ((h.root v hv).1 h0).symm)
    (fun v k hv hk => (h.steps hG v k hv hk).imp fun u hu => ⟨hu.1, hu.2.1, trivial, hu.2.2⟩) N
  exact list_of_getD h1 fun v hv => h3 v hv (Nat.le_of_lt (h.lt hG.adj v hv))
end Fil
end
section
namespace Fil
/-- the lists of those of labels below i -/
def compsI (N i : Nat) (lab : Nat → Nat) : List (List Nat) := ((List.range i).filter fun v => lab v == v).map fun r => (List.range N).filter fun u => lab u == r
abbrev compsS (N : Nat) (lab : Nat → Nat) : List (List Nat) := compsI N N lab
theorem Bfs.comps {N : Nat} {A : Nat → List Nat} {met : List Bool} {out : List Nat} {lab : Nat → Nat} (h : Bfs N A N met out lab []) : compsL N N met lab = compsS N lab := by
  apply List.map_congr_left
  intro r _
  apply List.filter_congr
  intro u hu
  rw [h.below u (by simpa using hu), Bool.true_and]
theorem compsI_next {N i : Nat} {lab : Nat → Nat} (h : lab i ≠ i) : compsI N (i + 1) lab = compsI N i lab := by
  have : (lab i == i) = false := by simpa using h
  rw [compsI, List.range_succ, List.filter_append]
  simp [this, compsI]
theorem compsI_add {N i : Nat} {lab : Nat → Nat} (h : lab i = i) : compsI N (i + 1) lab = compsI N i lab ++ [(List.range N).filter fun u => lab u == i] := by
  rw [compsI, List.range_succ, List.filter_append]
  simp [h, compsI]
theorem compsI_length (N i : Nat) (lab : Nat → Nat) : (compsI N i lab).length ≤ i := by
  rw [compsI, List.length_map]
  have := List.length_filter_le (fun v => lab v == v) (List.range i)
  rwa [List.length_range] at this
theorem compsS_congr {N : Nat} {lab lab' : Nat → Nat} (h : ∀ v, v < N → lab v = lab' v) : compsS N lab = compsS N lab' := by
  have e1 : (List.range N).filter (fun v => lab v == v) = (List.range N).filter fun v => lab' v == v := by
    apply List.filter_congr
    intro v hv
    rw [h v (by simpa using hv)]
  rw [compsS, compsS, compsI, compsI, e1]
  apply List.map_congr_left
  intro r _
  apply List.filter_congr
  intro u hu
  rw [h u (by simpa using hu)]
/-- one row, as far as u -/
theorem row_low {lab : Nat → Nat} {v : Nat} (hl : ∀ u, u < v → lab u ≤ u) : (List.range v).filter (fun u => lab u == v) = [] := by
  rw [List.filter_eq_nil_iff]
  intro u hu
  have hu : u < v := by simpa using hu
  have := hl u hu
  simp; omega
theorem row_add {lab : Nat → Nat} {u v : Nat} (h : lab u = v) : (List.range (u + 1)).filter (fun u => lab u == v) = (List.range u).filter (fun u => lab u == v) ++ [u] := by
  rw [List.range_succ, List.filter_append]
  simp [h]
theorem row_next {lab : Nat → Nat} {u v : Nat} (h : lab u ≠ v) : (List.range (u + 1)).filter (fun u => lab u == v) = (List.range u).filter (fun u => lab u == v) := by
  have : (lab u == v) = false := by simpa using h
  rw [List.range_succ, List.filter_append]
  simp [this]
theorem row_length (N v : Nat) (lab : Nat → Nat) : ((List.range N).filter fun u => lab u == v).length ≤ N := by
  have := List.length_filter_le (fun u => lab u == v) (List.range N)
  rwa [List.length_range] at this
/-- each list of it -/
theorem comp_mem {N : Nat} {lab : Nat → Nat} {c : List Nat} (h : c ∈ compsS N lab) : ∃ r, r < N ∧ lab r = r ∧ c = (List.range N).filter fun u => lab u == r := by
  obtain ⟨r, hr, rfl⟩ := List.mem_map.1 h
  obtain ⟨h1, h2⟩ := List.mem_filter.1 hr
  exact ⟨r, by simpa using h1, by simpa using h2, rfl⟩
theorem filter_head {p : Nat → Bool} {r : Nat} : ∀ {l : List Nat}, r ∈ l → p r = true → ∃ x t, l.filter p = x :: t
  | y :: l, hr, hp => by
    by_cases h : p y = true
    · exact ⟨y, l.filter p, by simp [h]⟩
    · have : r ∈ l := by
        rcases List.mem_cons.1 hr with rfl | h1
        · exact absurd hp h
        · exact h1
      obtain ⟨x, t, e⟩ := filter_head this hp
      exact ⟨x, t, by simp [h, e]⟩
/-- .. begins with its label -/
theorem comp_head {N : Nat} {lab : Nat → Nat} {r : Nat} (hr : r < N) (hl : lab r = r) (hle : ∀ v, v < N → lab v ≤ v) : ∃ t, ((List.range N).filter fun u => lab u == r) = r :: t := by
  obtain ⟨x, t, e⟩ := filter_head (p := fun u => lab u == r) (List.mem_range.2 hr) (by simpa using hl)
  have hx : x ∈ (List.range N).filter fun u => lab u == r := by rw [e]; simp
  obtain ⟨h1, h2⟩ := List.mem_filter.1 hx
  have h1 : x < N := by simpa using h1
  have h2 : lab x = r := by simpa using h2
  have h3 := hle x h1
  have hs : ((List.range N).filter fun u => lab u == r).Pairwise (fun a b => a < b) := List.pairwise_lt_range.filter _
  have hr' : r ∈ (List.range N).filter fun u => lab u == r := List.mem_filter.2 ⟨List.mem_range.2 hr, by simpa using hl⟩
  rw [e] at hs hr'
  rcases List.mem_cons.1 hr' with h4 | h4
  · exact ⟨t, by rw [e, h4]⟩
  · have := (List.pairwise_cons.1 hs).1 r h4
    omega
theorem Lev.congr {N : Nat} {A B : Nat → List Nat} {o lab : Nat → Nat} (h : Lev N A o lab) (hAB : ∀ v, v < N → ∀ u, u ∈ A v ↔ u ∈ B v) : Lev N B o lab where
  edge w hw u hu := h.edge w hw u ((hAB w hw u).2 hu)
  up v k hv hk := by
    obtain ⟨u, hu, h2⟩ := h.up v k hv hk
    exact ⟨u, (hAB v hv u).1 hu, h2⟩
  root := h.root
  le := h.le
  idem := h.idem
  conn v hv c hc := h.conn v hv c fun w hw u hu => hc w hw u ((hAB w hw u).1 hu)
end Fil
end
