/- Rows and structs out of their parts. -/
import Derived.Test.YtkekpgkacjpjnaaSlPlan
set_option linter.unusedVariables false
set_option linter.unusedSimpArgs false
namespace Go.Sl
open Go Go.RowKit

theorem foldl_set (us : List Value) : ∀ (k off : Nat) (cells : Array Value), ((us.zipIdx k).foldl (fun (cs : Array Value) (p : Value × Nat) => cs.setIfInBounds (off + p.2) p.1) cells).toList = putL cells.toList (off + k) us := by
  induction us with
  | nil => intro k off cells; rfl
  | cons u us ih =>
    intro k off cells
    simp only [List.zipIdx_cons, List.foldl_cons, putL]
    rw [ih (k + 1) off, Array.toList_setIfInBounds, Nat.add_assoc]

theorem putL_all {α : Type} : ∀ (us : List α) (pre mid post : List α), mid.length = us.length → putL (pre ++ mid ++ post) pre.length us = pre ++ us ++ post
  | [], pre, mid, post, h => by
    have : mid = [] := List.eq_nil_of_length_eq_zero (by simpa using h)
    subst this; rfl
  | u :: us, pre, [], post, h => by simp at h
  | u :: us, pre, m :: mid, post, h => by
    have e : (pre ++ m :: mid ++ post).set pre.length u = (pre ++ [u]) ++ mid ++ post := by
      rw [List.append_assoc, List.append_assoc]
      rw [List.set_append_right _ _ (Nat.le_refl _)]
      simp
    rw [putL, e]
    have ih := putL_all us (pre ++ [u]) mid post (by simpa using h)
    rw [List.length_append, List.length_singleton] at ih
    rw [ih]
    simp

def idxs (us : List Value) (k : Nat) : List (Nat × Value) := (us.zipIdx k).map fun p => (p.2, p.1)

theorem fill_all (sz : Nat) : ∀ (us : List Value) (k : Nat) (cells : Array Value) (pre mid post : List Value), (∀ u ∈ us, u.cells.size = sz) → cells.toList = pre ++ mid ++ post → pre.length = k * sz → mid.length = us.length * sz →
    ∃ arr : Array Value, Instr.fill (fun i => some (i * sz, sz)) cells (idxs us k) = some arr ∧ arr.toList = pre ++ (us.flatMap fun u => u.cells.toList) ++ post
  | [], k, cells, pre, mid, post, _, hc, _, hm => ⟨cells, rfl, by
      have : mid = [] := List.eq_nil_of_length_eq_zero (by simpa using hm)
      subst this; simpa using hc⟩
  | u :: us, k, cells, pre, mid, post, hs, hc, hp, hm => by
    have hu := hs u (by simp)
    have hml : sz ≤ mid.length := by rw [hm, List.length_cons, Nat.succ_mul]; omega
    have hsize : cells.size = pre.length + mid.length + post.length := by rw [← Array.length_toList, hc]; simp; omega
    let arr := u.cells.zipIdx.foldl (fun (cs : Array Value) (p : Value × Nat) => cs.setIfInBounds (k * sz + p.2) p.1) cells
    have harr : arr.toList = (pre ++ u.cells.toList) ++ mid.drop sz ++ post := by
      have e : arr = ((u.cells.toList.zipIdx 0).foldl (fun (cs : Array Value) (p : Value × Nat) => cs.setIfInBounds (k * sz + p.2) p.1) cells) := by
        show u.cells.zipIdx.foldl _ cells = _
        rw [← Array.foldl_toList]
        simp
      rw [e, foldl_set, hc, Nat.add_zero, ← hp]
      have hul : u.cells.toList.length = sz := by rw [Array.length_toList, hu]
      have := putL_all u.cells.toList pre (mid.take sz) (mid.drop sz ++ post) (by rw [List.length_take, hul]; omega)
      rw [← List.append_assoc, List.append_assoc pre, List.take_append_drop] at this
      rw [this]
      simp
    obtain ⟨arr', h1, h2⟩ := fill_all sz us (k + 1) arr (pre ++ u.cells.toList) (mid.drop sz) post (fun u hu => hs u (by simp [hu])) harr (by simp [hp, hu, Nat.succ_mul]) (by rw [List.length_drop, hm, List.length_cons, Nat.succ_mul]; omega)
    refine ⟨arr', ?_, by rw [h2]; simp⟩
    have hne : ¬ (u.cells.size ≠ sz || k * sz + u.cells.size > cells.size) = true := by
      simp only [hu, ne_eq, not_true_eq_false, decide_false, Bool.false_or, decide_eq_true_eq]
      omega
    show Instr.fill _ cells ((k, u) :: idxs us (k + 1)) = _
    simp only [Instr.fill]
    rw [if_neg hne]
    exact h1

section
variable {P : Program} {w0 : World} {S0 : FS} {n : Nat} {F : List (Nat × Value)} {L Lk : List HP} {rest : List Oper} {ops : Array Oper} {Q : Exit → Act → World → Prop} {d i : Nat} {ty : TypeId} {ps : String} {af : Array Edge} {plan : List PI}

theorem run_mkrow {t e : TypeId} {z : Value} {sz bytes : Nat} [T : SlTy P t e z sz bytes] (us : List Value) (hus : ∀ u ∈ us, u.cells.size = sz) (hk : us.length * sz ≤ 16777216) (h0 : us ≠ []) (w : World) :
    (Instr.buildSlice t us.length (idxs us 0).toArray).run P w = .ok (.slice (some ⟨w.heap.size, 0, none⟩) us.length us.length) (w.alloc (.cells (us.flatMap fun u => u.cells.toList).toArray e (0, 0))) := by
  obtain ⟨i0, hi, hzz⟩ := Option.map_eq_some_iff.1 T.info
  simp only [Prod.mk.injEq] at hzz
  have hzero : (zeroValue e).run P w = .ok z w := by simp [zeroValue, typeInfo, hi, hzz.1]
  have hpos : ¬ us.length * sz = 0 := by
    have := T.pos
    have : 0 < us.length := by cases us with | nil => exact absurd rfl h0 | cons _ _ => simp
    exact Nat.ne_of_gt (Nat.mul_pos this T.pos)
  obtain ⟨arr, h1, h2⟩ := fill_all sz us 0 ((Array.range (us.length * sz)).map (z.cells[· % z.cells.size]!)) [] ((Array.range (us.length * sz)).map (z.cells[· % z.cells.size]!)).toList [] hus (by simp) (by simp) (by simp)
  have e2 : arr = (us.flatMap fun u => u.cells.toList).toArray := by
    apply Array.toList_inj.1
    simpa using h2
  have hk' : ¬ (16777216 < us.length * sz) := by omega
  subst e2
  simp only [Instr.buildSlice, Sem.run_bind, Sem.run_pure, run_under T.u, T.size, Result.andThen_ok]
  simp [hk', hpos, hzero, h1, run_newRow]

theorem l_mk {R : Act → World → Prop} {o : Oper} {parts : Array (Nat × Operand)} {t e : TypeId} {z : Value} {sz bytes k : Nat} [T : SlTy P t e z sz bytes] (us : List Value) (ho : o.op = .buildSlice t k parts) (hd : o.dst = some d) (hn : Nat.blt d n = true) (hp : parts.toList.map (fun p => (p.1, ev F p.2)) = (idxs us 0).map (fun p => (p.1, some p.2))) (hk : us.length = k) (hus : ∀ u ∈ us, u.cells.size = sz) (hb : k * sz ≤ 16777216) (h0 : us ≠ [])
    (h : ∀ v, Shp v k → Reach w0 S0 n ((d, v) :: F) (rowHP v e sz k (us.flatMap fun u => u.cells.toList) :: L) R) : Reach w0 S0 n F L (fun a w => o.wp P a w R Q) := by
  subst hk
  have hlen : ∀ us : List Value, (∀ u ∈ us, u.cells.size = sz) → (us.flatMap fun u => u.cells.toList).length = us.length * sz := by
    intro us
    induction us with
    | nil => simp
    | cons u us ih =>
      intro h
      rw [List.flatMap_cons, List.length_append, ih (fun u hu => h u (by simp [hu])), Array.length_toList, h u (by simp), List.length_cons, Nat.succ_mul, Nat.add_comm]
  refine l_mkrow ho hd hn (cs := us.flatMap fun u => u.cells.toList) (fun a hf w => ?_) (hlen us hus) (by have := Nat.le_mul_of_pos_right us.length T.pos; simp only [maxLen]; omega) h
  have : (parts.map fun (i, x) => (i, a.eval x)) = (idxs us 0).toArray := by
    have key : ∀ (l : List (Nat × Operand)) (m : List (Nat × Value)), l.map (fun p => (p.1, ev F p.2)) = m.map (fun p => (p.1, some p.2)) → l.map (fun (p : Nat × Operand) => (p.1, a.eval p.2)) = m := by
      intro l
      induction l with
      | nil => intro m hm; cases m with | nil => rfl | cons _ _ => simp at hm
      | cons x l ih =>
        intro m hm
        cases m with
        | nil => simp at hm
        | cons y m =>
          simp only [List.map_cons, List.cons.injEq, Prod.mk.injEq] at hm ⊢
          refine ⟨?_, ih m hm.2⟩
          rw [hf.eval hm.1.2, hm.1.1]
    obtain ⟨l⟩ := parts
    rw [List.map_toArray]
    exact congrArg List.toArray (key l _ hp)
  rw [this]
  exact run_mkrow us hus hb h0 w

theorem o_mk {parts : Array (Nat × Operand)} {t e : TypeId} {z : Value} {sz bytes k : Nat} [T : SlTy P t e z sz bytes] (us : List Value) (hn : Nat.blt d n = true) (hp : parts.toList.map (fun p => (p.1, ev F p.2)) = (idxs us 0).map (fun p => (p.1, some p.2))) (hk : us.length = k) (hus : ∀ u ∈ us, u.cells.size = sz) (hb : k * sz ≤ 16777216) (h0 : us ≠ [])
    (h : ∀ v, Shp v k → Reach w0 S0 n ((d, v) :: F) (rowHP v e sz k (us.flatMap fun u => u.cells.toList) :: L) (wpList P ops Q rest)) : Reach w0 S0 n F L (wpList P ops Q (⟨some d, .buildSlice t k parts, ty, ps, af, none⟩ :: rest)) :=
  s_of_l rfl fun R hR => l_mk us rfl rfl hn hp hk hus hb h0 fun v hv => (h v hv).imp hR

theorem p_mk {parts : Array (Nat × Operand)} {t e : TypeId} {z : Value} {sz bytes k : Nat} [T : SlTy P t e z sz bytes] (us : List Value) (ho : ops[i]? = some ⟨some d, .buildSlice t k parts, ty, ps, af, none⟩) (hn : Nat.blt d n = true) (hp : parts.toList.map (fun p => (p.1, ev F p.2)) = (idxs us 0).map (fun p => (p.1, some p.2))) (hk : us.length = k) (hus : ∀ u ∈ us, u.cells.size = sz) (hb : k * sz ≤ 16777216) (h0 : us ≠ []) (hL : ∀ w (A : HP), St w0 S0 (A :: L) w → St w0 S0 Lk w)
    (h : ∀ v, Shp v k → RP P w0 S0 n ops Q Lk plan ((d, v) :: F) (rowHP v e sz k (us.flatMap fun u => u.cells.toList) :: L)) : RP P w0 S0 n ops Q Lk (.mk i false :: plan) F L :=
  p_l ho rfl fun R hR => l_mk us rfl rfl hn hp hk hus hb h0 fun v hv => hR _ _ (fun w => hL w _) (h v hv)
end
end Go.Sl
