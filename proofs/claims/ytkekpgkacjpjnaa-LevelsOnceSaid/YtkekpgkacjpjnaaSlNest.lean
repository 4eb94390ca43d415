/- Entries within entries; calls that are lent entries; cuts; what is cut off a row. -/
import Derived.Test.YtkekpgkacjpjnaaSlCall
set_option linter.unusedVariables false
set_option linter.unusedSimpArgs false
namespace Go.Sl
open Go Go.RowKit

def empHP : HP where
  sat _ _ := True
  mono _ h := h
  move _ h := h
  bound h := h

def starHP (Ks : List HP) : HP where
  sat S w := sats Ks S w
  mono := sats_mono
  move := sats_move
  bound := sats_bound

section
variable {P : Program} {w0 : World} {S0 : FS} {n : Nat} {F : List (Nat × Value)} {L Lk : List HP} {o : Oper} {rest : List Oper} {ops : Array Oper} {Q : Exit → Act → World → Prop} {d : Nat} {v : Value} {R : Act → World → Prop}

theorem St.take {w : World} {A : HP} {Ks : List HP} {i k : Nat} (hi : L[i]? = some (starHP Ks)) (hk : Ks[k]? = some A) (h : St w0 S0 L w) : St w0 S0 (A :: L.set i (starHP (Ks.set k empHP))) w := by
  obtain ⟨S, hm, hl⟩ := h
  obtain ⟨S1, S2, h1, h2, hd, ha, hl⟩ := sats_get hi hl
  obtain ⟨T1, T2, t1, t2, td, ta, tl⟩ := sats_get hk ha
  have hi' : i < L.length := (List.getElem?_eq_some_iff.1 hi).1
  have hk' : k < Ks.length := (List.getElem?_eq_some_iff.1 hk).1
  have hs := sats_put (A := empHP) (S1 := fun _ => False) hk' trivial tl (fun _ h => h.elim)
  have hs' := sats_put (A := starHP (Ks.set k empHP)) hi' hs hl (fun j hj hj2 => hd j (t2 j (hj.elim (fun h => h.elim) id)) hj2)
  refine ⟨S, hm, T1, _, fun j hj => h1 j (t1 j hj), ?_, ?_, ta, hs'⟩
  · rintro j ((hj | hj) | hj)
    · exact hj.elim
    · exact h1 j (t2 j hj)
    · exact h2 j hj
  · rintro j hj ((hj2 | hj2) | hj2)
    · exact hj2
    · exact td j hj hj2
    · exact hd j (t1 j hj) hj2

theorem St.give {w : World} {A : HP} {Ks : List HP} {i k : Nat} (hi : L[i]? = some (starHP Ks)) (hk : k < Ks.length) (h : St w0 S0 (A :: L) w) : St w0 S0 (L.set i (starHP (Ks.set k A))) w := by
  obtain ⟨S, hm, SA, SL, a1, a2, ad, hA, hl⟩ := h
  obtain ⟨S1, S2, h1, h2, hd, ha, hl⟩ := sats_get hi hl
  obtain ⟨T1, T2, t1, t2, td, ta, tl⟩ := sats_get (List.getElem?_eq_getElem hk) ha
  have hi' : i < L.length := (List.getElem?_eq_some_iff.1 hi).1
  have hs := sats_put (A := A) (S1 := SA) hk hA tl (fun j hj hj2 => ad j hj (h1 j (t2 j hj2)))
  have hs' := sats_put (A := starHP (Ks.set k A)) hi' hs hl (fun j hj hj2 => hj.elim (fun h => ad j h (h2 j hj2)) (fun h => hd j (t2 j h) hj2))
  refine ⟨S, hm, sats_mono ?_ hs'⟩
  rintro j ((hj | hj) | hj)
  · exact a1 j hj
  · exact a2 j (h1 j (t2 j hj))
  · exact a2 j (h2 j hj)

theorem St.pushk {w : World} {A : HP} {Ks : List HP} {i : Nat} (hi : L[i]? = some (starHP Ks)) (h : St w0 S0 (A :: L) w) : St w0 S0 (L.set i (starHP (Ks ++ [A]))) w := by
  obtain ⟨S, hm, SA, SL, a1, a2, ad, hA, hl⟩ := h
  obtain ⟨S1, S2, h1, h2, hd, ha, hl⟩ := sats_get hi hl
  have hi' : i < L.length := (List.getElem?_eq_some_iff.1 hi).1
  have hs : sats (Ks ++ [A]) (fun j => S1 j ∨ SA j) w := sats_append ha (M := [A]) ⟨SA, fun _ => False, fun _ h => h, fun _ h => h.elim, fun _ _ h => h, hA, trivial⟩ (fun j hj hj2 => ad j hj2 (h1 j hj))
  have hs' := sats_put (A := starHP (Ks ++ [A])) hi' hs hl (fun j hj hj2 => hj.elim (fun h => hd j h hj2) (fun h => ad j h (h2 j hj2)))
  refine ⟨S, hm, sats_mono ?_ hs'⟩
  rintro j ((hj | hj) | hj)
  · exact a2 j (h1 j hj)
  · exact a1 j hj
  · exact a2 j (h2 j hj)

theorem St.star0 {w : World} (h : St w0 S0 L w) : St w0 S0 (starHP [] :: L) w := by
  obtain ⟨S, hm, hl⟩ := h
  exact ⟨S, hm, fun _ => False, S, fun _ h => h.elim, fun _ h => h, fun _ h => h.elim, trivial, hl⟩

/-- a nil slice is owned at no cost -/
theorem sat_nil (e : TypeId) (sz : Nat) (w : World) (S : FS) : (rowHP (.slice none 0 0) e sz 0 []).sat S w := ⟨by simp, .inl ⟨rfl, rfl⟩⟩

theorem St.nil {w : World} (e : TypeId) (sz : Nat) (h : St w0 S0 L w) : St w0 S0 (rowHP (.slice none 0 0) e sz 0 [] :: L) w := by
  obtain ⟨S, hm, hl⟩ := h
  exact ⟨S, hm, fun _ => False, S, fun _ h => h.elim, fun _ h => h, fun _ h => h.elim, sat_nil e sz w _, hl⟩

theorem sats_nils (e : TypeId) (sz : Nat) (w : World) : ∀ (m : Nat) (S : FS), sats (List.replicate m (rowHP (.slice none 0 0) e sz 0 [])) S w
  | 0, _ => trivial
  | m + 1, S => ⟨fun _ => False, S, fun _ h => h.elim, fun _ h => h, fun _ h => h.elim, sat_nil e sz w _, sats_nils e sz w m S⟩

theorem St.nils {w : World} (e : TypeId) (sz m : Nat) (h : St w0 S0 L w) : St w0 S0 (starHP (List.replicate m (rowHP (.slice none 0 0) e sz 0 [])) :: L) w := by
  obtain ⟨S, hm, hl⟩ := h
  exact ⟨S, hm, fun _ => False, S, fun _ h => h.elim, fun _ h => h, fun _ h => h.elim, sats_nils e sz w m _, hl⟩

/-- several rows, each with what it holds -/
def kids {α : Type} (f : Value → α → HP) (hs : List Value) (ls : List α) : List HP := List.zipWith f hs ls
theorem kids_get {α : Type} {f : Value → α → HP} {hs : List Value} {ls : List α} {k : Nat} {h : Value} {l : α} (h1 : hs[k]? = some h) (h2 : ls[k]? = some l) : (kids f hs ls)[k]? = some (f h l) := by
  simp [kids, List.getElem?_zipWith, h1, h2]
theorem kids_mem {α : Type} {f : Value → α → HP} {hs : List Value} {ls : List α} {k : Nat} {h : Value} {l : α} (h1 : hs[k]? = some h) (h2 : ls[k]? = some l) : f h l ∈ kids f hs ls := List.mem_of_getElem? (kids_get h1 h2)
theorem kids_set {α : Type} {f : Value → α → HP} : ∀ {hs : List Value} {ls : List α} {k : Nat} {h : Value} {l : α} {x : HP}, ((kids f hs ls).set k x).set k (f h l) = kids f (hs.set k h) (ls.set k l)
  | [], [], _, _, _, _ => rfl
  | [], _ :: _, 0, _, _, _ => rfl
  | [], _ :: _, _ + 1, _, _, _ => rfl
  | _ :: _, [], 0, _, _, _ => rfl
  | _ :: _, [], _ + 1, _, _, _ => rfl
  | _ :: _, _ :: _, 0, _, _, _ => rfl
  | a :: hs, b :: ls, k + 1, h, l, x => congrArg (f a b :: ·) (kids_set (hs := hs) (ls := ls) (k := k) (h := h) (l := l) (x := x))
theorem kids_set2 {α : Type} {f : Value → α → HP} : ∀ {hs : List Value} {ls : List α} {k : Nat} {h : Value} {l : α} {x : HP}, hs[k]? = some h → ((kids f hs ls).set k x).set k (f h l) = kids f hs (ls.set k l)
  | [], _, _, _, _, _, hk => by simp at hk
  | _ :: _, [], 0, _, _, _, _ => rfl
  | _ :: _, [], _ + 1, _, _, _, _ => rfl
  | _ :: _, _ :: _, 0, _, _, _, hk => by
    simp only [List.getElem?_cons_zero, Option.some.injEq] at hk
    subst hk; rfl
  | a :: hs, b :: ls, k + 1, h, l, x, hk => congrArg (f a b :: ·) (kids_set2 (hs := hs) (ls := ls) (k := k) (h := h) (l := l) (x := x) (by simpa using hk))
theorem kids_length {α : Type} {f : Value → α → HP} {hs : List Value} {ls : List α} (h : hs.length = ls.length) : (kids f hs ls).length = ls.length := by simp [kids, h]
theorem kids_append {α : Type} {f : Value → α → HP} {hs : List Value} {ls : List α} {h : Value} {l : α} (e : hs.length = ls.length) : kids f (hs ++ [h]) (ls ++ [l]) = kids f hs ls ++ [f h l] := by
  rw [kids, List.zipWith_append e]; rfl
theorem kids_nils {α : Type} {f : Value → α → HP} (m : Nat) (h : Value) (l : α) : kids f (List.replicate m h) (List.replicate m l) = List.replicate m (f h l) := by simp [kids]
theorem kids_one {α : Type} {f : Value → α → HP} (m : Nat) (h : Value) (l : α) : kids f [h] [l] = [f h l] := rfl

/-- own rows: of integers, say -/
def rowOf {α : Type} (e : TypeId) (sz : Nat) (enc : α → List Value) (h : Value) (l : List α) : HP := rowHP h e sz l.length (l.flatMap enc)

/-! at a walk -/
theorem Reach.conv {M : List HP} (hM : ∀ w, St w0 S0 L w → St w0 S0 M w) (h : Reach w0 S0 n F M R) : Reach w0 S0 n F L R :=
  fun a w hf hs => h a w hf (hM w hs)
theorem c_take {A : HP} {Ks : List HP} (i k : Nat) (hi : L[i]? = some (starHP Ks)) (hk : Ks[k]? = some A) (h : Reach w0 S0 n F (A :: L.set i (starHP (Ks.set k empHP))) R) : Reach w0 S0 n F L R := h.conv fun _ => St.take hi hk
theorem c_give {A : HP} {Ks : List HP} (i k : Nat) (hi : L[i]? = some (starHP Ks)) (hk : k < Ks.length) (h : Reach w0 S0 n F (L.set i (starHP (Ks.set k A))) R) : Reach w0 S0 n F (A :: L) R := h.conv fun _ => St.give hi hk
theorem c_pushk {A : HP} {Ks : List HP} (i : Nat) (hi : L[i]? = some (starHP Ks)) (h : Reach w0 S0 n F (L.set i (starHP (Ks ++ [A]))) R) : Reach w0 S0 n F (A :: L) R := h.conv fun _ => St.pushk hi
theorem c_nils (e : TypeId) (sz m : Nat) (h : Reach w0 S0 n F (starHP (List.replicate m (rowHP (.slice none 0 0) e sz 0 [])) :: L) R) : Reach w0 S0 n F L R := h.conv fun _ => St.nils e sz m
theorem c_nil (e : TypeId) (sz : Nat) (h : Reach w0 S0 n F (rowHP (.slice none 0 0) e sz 0 [] :: L) R) : Reach w0 S0 n F L R := h.conv fun _ => St.nil e sz
theorem c_star0 (h : Reach w0 S0 n F (starHP [] :: L) R) : Reach w0 S0 n F L R := h.conv fun _ => St.star0
theorem c_pick {M : List HP} (is : List Nat) (hL : pick L is = some M) (h : Reach w0 S0 n F M R) : Reach w0 S0 n F L R := h.conv fun _ hs => hs.pick is hL
theorem c_covers {G : List (Nat × Value)} (hF : covers F G) (h : Reach w0 S0 n G L R) : Reach w0 S0 n F L R := fun a w hf hs => h a w (hf.weaken (covers_spec hF)) hs

/-- what stands in an entry of entries -/
theorem St.kid {w : World} {A : HP} {Ks : List HP} (h : St w0 S0 L w) (hL : starHP Ks ∈ L) (hK : A ∈ Ks) : ∃ S, A.sat S w := by
  obtain ⟨S, hs⟩ := h.mem hL
  obtain ⟨i, hi, rfl⟩ := List.getElem_of_mem hK
  obtain ⟨S1, _, _, _, _, ha, _⟩ := sats_get (List.getElem?_eq_getElem hi) hs
  exact ⟨S1, ha⟩
theorem know_kid {e : TypeId} {sz m : Nat} {ys : List Value} {Ks : List HP} (hL : starHP Ks ∈ L) (hK : rowHP v e sz m ys ∈ Ks) (h : Shp v m → ys.length = m * sz → Reach w0 S0 n F L R) : Reach w0 S0 n F L R := by
  intro a w hf hs
  obtain ⟨S, hsat⟩ := hs.kid hL hK
  exact h (rowHP_shp hsat) hsat.1 a w hf hs
theorem q_ld_kid {x : Operand} {t e : TypeId} {k sz m : Nat} {s : Value} {ys : List Value} {Ks : List HP} (ho : o.op = .load t x) (hx : ev F x = some (pv s k)) (hL : starHP Ks ∈ L) (hK : rowHP s e sz m ys ∈ Ks) (hc : ys[k]? = some v) [T : ScTy P t] : R1 P w0 S0 n F L o v :=
  q_ld_of (fun _ hs => (hs.kid hL hK).elim fun _ h => rowHP_rd h) ho hx hc
theorem q_ldk_kid {x : Operand} {t e : TypeId} {k z sz m : Nat} {s : Value} {ys us : List Value} {Ks : List HP} (ho : o.op = .load t x) (hx : ev F x = some (pv s k)) (hL : starHP Ks ∈ L) (hK : rowHP s e z m ys ∈ Ks) [T : AgTy P t sz] (h0 : 0 < sz) (hc : (ys.drop k).take sz = us) (hl : us.length = sz) : R1 P w0 S0 n F L o (.agg us.toArray) :=
  q_ldk_of (fun _ hs => (hs.kid hL hK).elim fun _ h => rowHP_rd h) ho hx h0 hl hc
theorem ro_kid {w : World} {e : TypeId} {sz m : Nat} {ys : List Value} {Ks : List HP} (hs : St w0 S0 L w) (hL : starHP Ks ∈ L) (hK : rowHP v e sz m ys ∈ Ks) : RO w No v ys := by
  obtain ⟨S, hsat⟩ := hs.kid hL hK
  exact RO.of_rd (rowHP_rd hsat)

/-! calls that are lent entries -/
structure Lent (w0 : World) (S0 : FS) (L0 Lr : List HP) (S : FS) (w : World) : Prop where
  own : sats L0 S w
  old : ∃ Sf, Mod w0 S0 w Sf ∧ ∀ k, S k → Sf k
  rest : ∃ Sr, sats Lr Sr w ∧ ∀ k, S k → ¬ Sr k

theorem St.lend {w : World} {L0 Lr : List HP} (h : St w0 S0 (L0 ++ Lr) w) : ∃ S Sr Sf, Mod w0 S0 w Sf ∧ sats L0 S w ∧ sats Lr Sr w ∧ (∀ k, S k → Sf k) ∧ (∀ k, Sr k → Sf k ∧ k < w.heap.size) ∧ ∀ k, S k → ¬ Sr k := by
  obtain ⟨Sf, hm, hl⟩ := h
  obtain ⟨S1, S2, h1, h2, hd, ha, hb⟩ := sats_split (sats_bound hl)
  exact ⟨S1, S2, Sf, hm, ha, hb, fun k hk => (h1 k hk).1, fun k hk => h2 k hk, hd⟩

theorem Lent.ro_old {w : World} {S : FS} {L0 Lr : List HP} {ys : List Value} (h : Lent w0 S0 L0 Lr S w) (hr : RO w0 S0 v ys) : RO w S v ys := by
  intro w' S' hm
  obtain ⟨Sf, hm0, hS⟩ := h.old
  exact hr w' (fun k => Sf k ∨ S' k) (hm0.trans ⟨hm.os, hm.tape, hm.output, hm.size, fun k hk hn => hm.keep k hk (fun h => hn (hS k h)), fun k hk => hk.elim .inl (fun h => (hm.new k h).imp (hS k) id)⟩)

theorem sats_mem {w : World} {A : HP} {M : List HP} {S : FS} (h : sats M S w) (hA : A ∈ M) : A.sat S w := by
  obtain ⟨i, hi, rfl⟩ := List.getElem_of_mem hA
  obtain ⟨S1, _, h1, _, _, ha, _⟩ := sats_get (List.getElem?_eq_getElem hi) h
  exact HP.mono _ h1 ha

theorem HP.keep {A : HP} {w w' : World} {S Sr S' : FS} (hA : A.sat Sr w) (hd : ∀ k, S k → ¬ Sr k) (hm : Mod w S w' S') : A.sat Sr w' := by
  refine A.mono (fun k hk => hk.1) (A.move (S := fun k => Sr k ∧ k < w.heap.size) (fun k hk hlt => hm.keep k hlt (fun h => hd k h hk.1)) (A.bound hA))

theorem Lent.ro_own {w : World} {S : FS} {L0 Lr : List HP} {e : TypeId} {sz m : Nat} {ys : List Value} (h : Lent w0 S0 L0 Lr S w) (hL : rowHP v e sz m ys ∈ Lr) : RO w S v ys := by
  intro w' S' hm
  obtain ⟨Sr, hr, hd⟩ := h.rest
  exact rowHP_rd (HP.keep (sats_mem hr hL) hd hm)
theorem Lent.ro_kid {w : World} {S : FS} {L0 Lr Ks : List HP} {e : TypeId} {sz m : Nat} {ys : List Value} (h : Lent w0 S0 L0 Lr S w) (hL : starHP Ks ∈ Lr) (hK : rowHP v e sz m ys ∈ Ks) : RO w S v ys := by
  intro w' S' hm
  obtain ⟨Sr, hr, hd⟩ := h.rest
  have := HP.keep (sats_mem hr hL) hd hm
  exact rowHP_rd (sats_mem this hK)

theorem l_lend {f : FuncId} {xs : Array Operand} {ts : Array TypeId} {vs : List Value} {G : Value → List HP → Prop} (L0 Lr : List HP) (hLL : L = L0 ++ Lr) (ho : o.op = .call { callee := .value (.func f), args := xs, argTypes := ts }) (hd : o.dst = some d) (hn : Nat.blt d n = true) (hvs : xs.toList.map (ev F) = vs.map some) [T : FnTy P f]
    (hc : ∀ w S, Lent w0 S0 L0 Lr S w → Calls P f vs.toArray w (Post w S G)) (h : ∀ v L', G v L' → Reach w0 S0 n ((d, v) :: F) (L' ++ Lr) R) : Reach w0 S0 n F L (fun a w => o.wp P a w R Q) := by
  subst hLL
  intro a w hf hs
  have hargs : xs.map a.eval = vs.toArray := by
    have : ∀ (l : List Operand) (us : List Value), l.map (ev F) = us.map some → l.map a.eval = us := by
      intro l
      induction l with
      | nil => intro us hu; cases us with | nil => rfl | cons _ _ => simp at hu
      | cons x l ih =>
        intro us hu
        cases us with
        | nil => simp at hu
        | cons u us =>
          simp only [List.map_cons, List.cons.injEq] at hu ⊢
          exact ⟨hf.eval hu.1, ih us hu.2⟩
    obtain ⟨l⟩ := xs
    rw [List.map_toArray, this l vs hvs]
  have hr : (execOp a.eval o).run P w = .ok (.enter f vs.toArray) w := by
    have e : a.eval (.func f) = .func (.func f) #[] #[] := rfl
    simp only [execOp, ho, resolve, hargs, e, Deferred.ofValue, invoke, Sem.run_bind, Sem.run_pure, Result.andThen_ok, Array.append_empty, Array.empty_append, T.c]
  unfold Oper.wp
  rw [hr, Oper.upon_enter]
  obtain ⟨S, Sr, Sf, hm0, hs0, hsr, hSf, hSr, hdis⟩ := hs.lend
  refine (hc w S ⟨hs0, ⟨Sf, hm0, hSf⟩, ⟨Sr, hsr, hdis⟩⟩).mono ?_
  rintro e w' ⟨u, L', g, rfl, S', hm, hl⟩
  refine h u L' g _ _ (by rw [hd]; exact hf.put hn) ?_
  have hsr' : sats Lr Sr w' := sats_move (fun k hk hlt => hm.keep k hlt (fun h => hdis k h hk)) hsr
  refine ⟨fun k => S' k ∨ Sr k, hm0.trans ⟨hm.os, hm.tape, hm.output, hm.size, fun k hk hn => hm.keep k hk (fun h => hn (hSf k h)), ?_⟩, sats_append hl hsr' ?_⟩
  · rintro k (hk | hk)
    · exact (hm.new k hk).imp (hSf k) id
    · exact .inl (hSr k hk).1
  · intro k hk hk2
    rcases hm.new k hk with h | h
    · exact hdis k h hk2
    · have := (hSr k hk2).2; omega

theorem s_lend {f : FuncId} {xs : Array Operand} {ts : Array TypeId} {vs : List Value} {G : Value → List HP → Prop} {ty : TypeId} {ps : String} {af : Array Edge} (L0 Lr : List HP) (hLL : L = L0 ++ Lr) (hn : Nat.blt d n = true) (hvs : xs.toList.map (ev F) = vs.map some) [T : FnTy P f]
    (hc : ∀ w S, Lent w0 S0 L0 Lr S w → Calls P f vs.toArray w (Post w S G)) (h : ∀ v L', G v L' → Reach w0 S0 n ((d, v) :: F) (L' ++ Lr) (wpList P ops Q rest)) : Reach w0 S0 n F L (wpList P ops Q (⟨some d, .call { callee := .value (.func f), args := xs, argTypes := ts }, ty, ps, af, none⟩ :: rest)) :=
  s_of_l rfl fun R hR => l_lend L0 Lr hLL rfl rfl hn hvs hc fun v L' g => (h v L' g).imp hR

/-! what is cut off a row: v[a:b] -/
def cutV (v : Value) (sz a b : Nat) : Value := match v with
  | .slice p _ cap => .slice (if cap = a then p else p.map (·.add (a * sz))) (b - a) (cap - a)
  | v => v

theorem Shp.cut {m sz a b : Nat} (h : Shp v m) (ha : a ≤ b) (hb : b ≤ m) : Shp (cutV v sz a b) (b - a) := by
  rcases h with ⟨h0, ⟨rfl, rfl⟩ | ⟨g, off, cap, rfl, h1, h2⟩⟩
  · refine ⟨by omega, .inl ⟨?_, by omega⟩⟩
    simp [cutV]; omega
  · refine ⟨by omega, .inr ?_⟩
    by_cases hc : cap = a
    · exact ⟨g, off, cap - a, by simp [cutV, hc], by omega, by omega⟩
    · exact ⟨g, off + a * sz, cap - a, by simp [cutV, hc, Addr.add], by omega, by omega⟩

theorem rowHP_cut {e : TypeId} {sz m a b : Nat} {ys : List Value} {S : FS} {w : World} (h : (rowHP v e sz m ys).sat S w) (ha : a ≤ b) (hb : b ≤ m) : (rowHP (cutV v sz a b) e sz (b - a) ((ys.drop (a * sz)).take ((b - a) * sz))).sat S w := by
  have hbm := Nat.mul_le_mul_right sz hb
  have habm := Nat.mul_le_mul_right sz ha
  refine ⟨by rw [List.length_take, List.length_drop, h.1, Nat.sub_mul]; omega, ?_⟩
  rcases h.2 with ⟨rfl, rfl⟩ | ⟨g, off, cap, cur, rfl, h2, h3, h4, h5, h6, h7⟩ | ⟨⟨g, off, rfl⟩, rfl⟩
  · refine .inl ⟨?_, by omega⟩
    simp [cutV]; omega
  · by_cases hc : cap = a
    · refine .inr (.inr ⟨⟨g, off, ?_⟩, by omega⟩)
      simp [cutV, hc]; omega
    · have hac : a ≤ cap := by omega
      refine .inr (.inl ⟨g, off + a * sz, cap - a, cur, by simp [cutV, hc, Addr.add], h2, h3, by omega, by omega, ?_, ?_⟩)
      · have := Nat.mul_le_mul_right sz hac
        rw [h6, Nat.sub_mul]; omega
      · rw [← h7, List.drop_take, List.take_take, List.drop_drop, Nat.sub_mul]
        congr 1
        omega
  · refine .inr (.inr ⟨⟨g, off, ?_⟩, by omega⟩)
    have : a = 0 := by omega
    subst this
    simp [cutV]; omega

theorem RdV.cut {w : World} {m sz a b : Nat} {ys : List Value} (hs : Shp v m) (h : RdV w v ys) (ha : a ≤ b) (hb : b ≤ m) : RdV w (cutV v sz a b) ((ys.drop (a * sz)).take ((b - a) * sz)) := by
  intro j u hj
  have hlt : j < (b - a) * sz := by
    have := (List.getElem?_eq_some_iff.1 hj).1
    rw [List.length_take] at this; omega
  rw [List.getElem?_take, if_pos hlt, List.getElem?_drop] at hj
  obtain ⟨g, off, m', cap, rfl, hc⟩ := h _ _ hj
  have hba : a < b := by
    rcases Nat.lt_or_ge a b with h | h
    · exact h
    · have : b - a = 0 := by omega
      rw [this] at hlt; simp at hlt
  have hcap : cap ≠ a := by
    rcases hs.2 with ⟨h, _⟩ | ⟨_, _, _, h, h1, _⟩
    · simp at h
    · simp only [Value.slice.injEq] at h; omega
  refine ⟨g, off + a * sz, b - a, cap - a, by simp [cutV, hcap, Addr.add], ?_⟩
  rw [Nat.add_assoc]; exact hc
theorem RO.cut {m sz a b : Nat} {ys : List Value} (hs : Shp v m) (h : RO w0 S0 v ys) (ha : a ≤ b) (hb : b ≤ m) : RO w0 S0 (cutV v sz a b) ((ys.drop (a * sz)).take ((b - a) * sz)) :=
  fun w S hm => (h w S hm).cut hs ha hb

theorem run_sliceAt {t e : TypeId} {z : Value} {sz bs m cap : Nat} {p : Option Addr} {lo hi : Option Value} {l h : Nat} [T : SlTy P t e z sz bs] (w : World) (hb : (Instr.sliceBounds true m cap lo hi none).run P w = .ok (l, h, cap) w) : (Instr.sliceAt t (.slice p m cap) lo hi none).run P w = .ok (cutV (.slice p m cap) sz l h) w := by
  simp [Instr.sliceAt, Instr.slice, run_under T.u, hb, T.size, cutV]

/-- v[lo:] -/
theorem q_cut_lo {x lo : Operand} {t e : TypeId} {s z : Value} {m sz bs : Nat} {k : IntKind} {i : Int} (ho : o.op = .slice t x (some lo) none none) (hx : ev F x = some s) (hl : ev F lo = some (.int k i)) (hs : Shp s m) (hi : 0 ≤ i ∧ i ≤ (m : Int)) [T : SlTy P t e z sz bs] : R1 P w0 S0 n F L o (cutV s sz i.toNat m) :=
  q_of_pure fun a hf w => by
    have key : ∀ cap, (Instr.sliceBounds true m cap (some (.int k i)) none none).run P w = .ok (i.toNat, m, cap) w := fun cap => by
      simp [Instr.sliceBounds, run_sliceBound, hi.1, hi.2]
    rcases hs.2 with ⟨rfl, rfl⟩ | ⟨g, off, cap, rfl, _⟩
    · simp [execOp, ho, hf.eval hx, hf.eval hl, run_sliceAt w (key 0)]
    · simp [execOp, ho, hf.eval hx, hf.eval hl, run_sliceAt w (key cap)]
/-- v[:hi] -/
theorem q_cut_hi {x hi : Operand} {t e : TypeId} {s z : Value} {m sz bs : Nat} {k : IntKind} {i : Int} (ho : o.op = .slice t x none (some hi) none) (hx : ev F x = some s) (hl : ev F hi = some (.int k i)) (hs : Shp s m) (hi : 0 ≤ i ∧ i ≤ (m : Int)) [T : SlTy P t e z sz bs] : R1 P w0 S0 n F L o (cutV s sz 0 i.toNat) :=
  q_of_pure fun a hf w => by
    have key : ∀ cap, m ≤ cap → (Instr.sliceBounds true m cap none (some (.int k i)) none).run P w = .ok (0, i.toNat, cap) w := fun cap hc => by
      have h2 : i ≤ (cap : Int) := by omega
      simp [Instr.sliceBounds, run_sliceBound, hi.1, h2]
    rcases hs.2 with ⟨rfl, rfl⟩ | ⟨g, off, cap, rfl, h1, _⟩
    · simp [execOp, ho, hf.eval hx, hf.eval hl, run_sliceAt w (key 0 (Nat.le_refl _))]
    · simp [execOp, ho, hf.eval hx, hf.eval hl, run_sliceAt w (key cap h1)]
/-- v[lo:hi] -/
theorem q_cut_lh {x lo hi : Operand} {t e : TypeId} {s z : Value} {m sz bs : Nat} {k k' : IntKind} {i j : Int} (ho : o.op = .slice t x (some lo) (some hi) none) (hx : ev F x = some s) (hl : ev F lo = some (.int k i)) (hh : ev F hi = some (.int k' j)) (hs : Shp s m) (hi : 0 ≤ i ∧ i ≤ j ∧ j ≤ (m : Int)) [T : SlTy P t e z sz bs] : R1 P w0 S0 n F L o (cutV s sz i.toNat j.toNat) :=
  q_of_pure fun a hf w => by
    have key : ∀ cap, m ≤ cap → (Instr.sliceBounds true m cap (some (.int k i)) (some (.int k' j)) none).run P w = .ok (i.toNat, j.toNat, cap) w := fun cap hc => by
      have h2 : j ≤ (cap : Int) := by omega
      have h3 : 0 ≤ j := by omega
      have h4 : i ≤ (j.toNat : Int) := by omega
      have e1 := fun code => run_sliceBound (P := P) w k i j.toNat code hi.1 h4
      have e2 := fun code => run_sliceBound (P := P) w k' j cap code h3 h2
      simp [Instr.sliceBounds, e1, e2]
    rcases hs.2 with ⟨rfl, rfl⟩ | ⟨g, off, cap, rfl, h1, _⟩
    · simp [execOp, ho, hf.eval hx, hf.eval hl, hf.eval hh, run_sliceAt w (key 0 (Nat.le_refl _))]
    · simp [execOp, ho, hf.eval hx, hf.eval hl, hf.eval hh, run_sliceAt w (key cap h1)]

/-- from here on the row is what was cut off -/
theorem St.cut {w : World} {e : TypeId} {sz m a b i : Nat} {ys : List Value} (hi : L[i]? = some (rowHP v e sz m ys)) (ha : a ≤ b) (hb : b ≤ m) (h : St w0 S0 L w) : St w0 S0 (L.set i (rowHP (cutV v sz a b) e sz (b - a) ((ys.drop (a * sz)).take ((b - a) * sz)))) w :=
  h.step hi fun S hs => ⟨S, Mod.refl w S, rowHP_cut hs ha hb⟩
theorem c_cutrow {e : TypeId} {sz m : Nat} {ys : List Value} (i a b : Nat) (hi : L[i]? = some (rowHP v e sz m ys)) (ha : a ≤ b) (hb : b ≤ m) (h : Reach w0 S0 n F (L.set i (rowHP (cutV v sz a b) e sz (b - a) ((ys.drop (a * sz)).take ((b - a) * sz)))) R) : Reach w0 S0 n F L R := h.conv fun _ => St.cut hi ha hb
end
end Go.Sl
