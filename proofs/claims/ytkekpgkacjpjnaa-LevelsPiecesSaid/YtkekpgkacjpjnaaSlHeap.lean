/- What a call owns: boxes, rows; loads, stores, makes, appends. -/
import Derived.Test.YtkekpgkacjpjnaaSlOps
import Derived.Laws.AppendOwn
import Derived.Laws.MakeOwn
import Derived.Laws.OwnMore
set_option linter.unusedVariables false
set_option linter.unusedSimpArgs false
namespace Go.Sl
open Go Go.RowKit

def boxHP (b : Nat) (t : TypeId) (cs : List Value) : HP where
  sat S w := S b ∧ w.heap[b]? = some (.cells cs.toArray t (0, 0))
  mono h h' := ⟨h _ h'.1, h'.2⟩
  move h h' := ⟨h'.1, (h _ h'.1 (Array.getElem?_eq_some_iff.1 h'.2).1).trans h'.2⟩
  bound h := ⟨⟨h.1, (Array.getElem?_eq_some_iff.1 h.2).1⟩, h.2⟩

/-- A row of the call's own: m elements of sz cells each; from some cell of its block on, to the block's end. -/
def rowHP (v : Value) (e : TypeId) (sz m : Nat) (ys : List Value) : HP where
  sat S w := ys.length = m * sz ∧ ((v = .slice none 0 0 ∧ m = 0) ∨ (∃ g off cap cur, v = .slice (some ⟨g, off, none⟩) m cap ∧ S g ∧ w.heap[g]? = some (.cells cur e (0, 0)) ∧ m ≤ cap ∧ cap ≤ maxLen ∧ cur.size = off + cap * sz ∧ (cur.toList.drop off).take (m * sz) = ys) ∨ ((∃ g off, v = .slice (some ⟨g, off, none⟩) 0 0) ∧ m = 0))
  mono h h' := ⟨h'.1, h'.2.imp id (Or.imp (fun ⟨g, off, cap, cur, h1, h2, h3⟩ => ⟨g, off, cap, cur, h1, h _ h2, h3⟩) id)⟩
  move h h' := ⟨h'.1, h'.2.imp id (Or.imp (fun ⟨g, off, cap, cur, h1, h2, h3, h4⟩ => ⟨g, off, cap, cur, h1, h2, (h _ h2 (Array.getElem?_eq_some_iff.1 h3).1).trans h3, h4⟩) id)⟩
  bound h' := ⟨h'.1, h'.2.imp id (Or.imp (fun ⟨g, off, cap, cur, h1, h2, h3, h4⟩ => ⟨g, off, cap, cur, h1, ⟨h2, (Array.getElem?_eq_some_iff.1 h3).1⟩, h3, h4⟩) id)⟩

theorem rowHP_shp {v : Value} {e : TypeId} {sz m : Nat} {ys : List Value} {S : FS} {w : World} (h : (rowHP v e sz m ys).sat S w) : Shp v m := by
  rcases h.2 with ⟨h1, rfl⟩ | ⟨g, off, cap, cur, h1, h2, h3, h4, h5, _⟩ | ⟨⟨g, off, h1⟩, rfl⟩
  · exact ⟨by simp [maxLen], .inl ⟨h1, rfl⟩⟩
  · exact ⟨by omega, .inr ⟨g, off, cap, h1, h4, h5⟩⟩
  · exact ⟨by simp [maxLen], .inr ⟨g, off, 0, h1, by omega, by simp [maxLen]⟩⟩

/-- A row that is read. -/
def RdV (w : World) (v : Value) (ys : List Value) : Prop := ∀ j u, ys[j]? = some u → ∃ g off m cap, v = .slice (some ⟨g, off, none⟩) m cap ∧ w.cell? ⟨g, off + j, none⟩ = some u

theorem rowHP_rd {v : Value} {e : TypeId} {sz m : Nat} {ys : List Value} {S : FS} {w : World} (h : (rowHP v e sz m ys).sat S w) : RdV w v ys := by
  intro j u hj
  rcases h.2 with ⟨h1, rfl⟩ | ⟨g, off, cap, cur, h1, h2, h3, h4, h5, h6, h7⟩ | ⟨_, rfl⟩
  · have := h.1; simp at this; subst this; simp at hj
  · refine ⟨g, off, m, cap, h1, ?_⟩
    have hlt : j < m * sz := by have := (List.getElem?_eq_some_iff.1 hj).1; rw [h.1] at this; exact this
    rw [← h7, List.getElem?_take, if_pos hlt, List.getElem?_drop] at hj
    simp only [World.cell?, h3]
    simpa using hj
  · have := h.1; simp at this; subst this; simp at hj

/-- .. whatever the call does. -/
def RO (w0 : World) (S0 : FS) (v : Value) (ys : List Value) : Prop := ∀ w S, Mod w0 S0 w S → RdV w v ys

theorem RO.of_rd {w0 : World} {v : Value} {ys : List Value} (h : RdV w0 v ys) : RO w0 (fun _ => False) v ys := by
  intro w S hm j u hj
  obtain ⟨g, off, m, cap, h1, h2⟩ := h j u hj
  exact ⟨g, off, m, cap, h1, by rw [hm.below.cell (p := ⟨g, off + j, none⟩) (World.block_lt_of_cell? w0 _ h2)]; exact h2⟩

section
variable {P : Program} {w0 : World} {S0 : FS} {n : Nat} {F : List (Nat × Value)} {L : List HP} {o : Oper} {rest : List Oper} {ops : Array Oper} {Q : Exit → Act → World → Prop} {d : Nat} {v : Value}

theorem St.mem {A : HP} {w : World} (h : St w0 S0 L w) (hA : A ∈ L) : ∃ S, A.sat S w := by
  obtain ⟨S, _, hl⟩ := h
  obtain ⟨i, hi, rfl⟩ := List.getElem_of_mem hA
  obtain ⟨S1, _, _, _, _, ha, _⟩ := sats_get (List.getElem?_eq_getElem hi) hl
  exact ⟨S1, ha⟩

theorem St.rd {w : World} {ys : List Value} (h : St w0 S0 L w) (hr : RO w0 S0 v ys) : RdV w v ys := by
  obtain ⟨S, hm, _⟩ := h
  exact hr w S hm

/-- what a row's shape is -/
theorem know_row {v : Value} {e : TypeId} {sz m : Nat} {ys : List Value} {R : Act → World → Prop} (hA : rowHP v e sz m ys ∈ L) (h : Shp v m → ys.length = m * sz → Reach w0 S0 n F L R) : Reach w0 S0 n F L R := by
  intro a w hf hs
  obtain ⟨S, hsat⟩ := hs.mem hA
  exact h (rowHP_shp hsat) hsat.1 a w hf hs

/-! loads -/
theorem run_load1 {t : TypeId} {ad : Addr} {u : Value} {w : World} (ha : ∀ w, (isAgg t).run P w = .ok false w) (hc : w.cell? ad = some u) : (Instr.loadAt t (.pointer (some ad))).run P w = .ok u w := by
  simp [Instr.loadAt, Instr.sureAddr, loadVar, ha, load, Sem.run, hc]

theorem q_ld_box {x : Operand} {t tb : TypeId} {b off : Nat} {cs : List Value} (ho : o.op = .load t x) (hx : ev F x = some (.pointer (some ⟨b, off, none⟩))) (hL : boxHP b tb cs ∈ L) (hc : cs[off]? = some v) [T : ScTy P t] : R1 P w0 S0 n F L o v :=
  q_of_run fun a hf w hs => by
    obtain ⟨S, hsat⟩ := hs.mem hL
    have hcell : w.cell? ⟨b, off, none⟩ = some v := by simp [World.cell?, hsat.2, hc]
    simp [execOp, ho, hf.eval hx, run_load1 T.agg hcell]

theorem loadCellsFrom_run {w : World} {a : Addr} : ∀ (k i : Nat) (acc : Array Value) (us : List Value), us.length = k → (∀ j u, us[j]? = some u → w.cell? (a.add (i + j)) = some u) → (loadCellsFrom a i k acc).run P w = .ok (acc ++ us.toArray) w
  | 0, i, acc, us, hl, h => by
    have : us = [] := List.eq_nil_of_length_eq_zero hl
    subst this
    simp [loadCellsFrom]
  | k + 1, i, acc, [], hl, h => by simp at hl
  | k + 1, i, acc, u :: us, hl, h => by
    have h0 : w.cell? (a.add i) = some u := h 0 u rfl
    have ih := loadCellsFrom_run (w := w) (a := a) k (i + 1) (acc.push u) us (by simpa using hl) (fun j u' hj => by have := h (j + 1) u' (by simpa using hj); rwa [show i + (j + 1) = i + 1 + j from by omega] at this)
    simp [loadCellsFrom, load, Sem.run, h0, ih]

theorem run_loadk {t : TypeId} {b off k : Nat} {us : List Value} {w : World} (ha : ∀ w, (isAgg t).run P w = .ok true w) (hz : ∀ w, (sizeOf t).run P w = .ok k w) (hl : us.length = k) (hc : ∀ j u, us[j]? = some u → w.cell? ⟨b, off + j, none⟩ = some u) : (Instr.loadAt t (.pointer (some ⟨b, off, none⟩))).run P w = .ok (.agg us.toArray) w := by
  have h := loadCellsFrom_run (P := P) (w := w) (a := ⟨b, off, none⟩) k 0 #[] us hl (fun j u hj => by
    have := hc j u hj
    by_cases h0 : j = 0
    · subst h0; simpa [Addr.add] using this
    · simpa [Addr.add, h0] using this)
  simp [Instr.loadAt, Instr.sureAddr, loadVar, ha, hz, loadCells, h]

/-- a struct out of a box -/
theorem q_ldk_box {x : Operand} {t tb : TypeId} {b off k : Nat} {cs us : List Value} (ho : o.op = .load t x) (hx : ev F x = some (.pointer (some ⟨b, off, none⟩))) (hL : boxHP b tb cs ∈ L) [T : AgTy P t k] (hl : us.length = k) (hc : (cs.drop off).take k = us) : R1 P w0 S0 n F L o (.agg us.toArray) :=
  q_of_run fun a hf w hs => by
    obtain ⟨S, hsat⟩ := hs.mem hL
    have := run_loadk (P := P) (b := b) (off := off) (w := w) T.agg T.size hl (fun j u hj => by
      have hlt := (List.getElem?_eq_some_iff.1 hj).1
      rw [← hc, List.getElem?_take, if_pos (by omega), List.getElem?_drop] at hj
      simp [World.cell?, hsat.2, hj])
    simp [execOp, ho, hf.eval hx, this]

theorem q_ld_of {x : Operand} {t : TypeId} {k : Nat} {s : Value} {ys : List Value} (hrd : ∀ w, St w0 S0 L w → RdV w s ys) (ho : o.op = .load t x) (hx : ev F x = some (pv s k)) (hc : ys[k]? = some v) [T : ScTy P t] : R1 P w0 S0 n F L o v :=
  q_of_run fun a hf w hs => by
    obtain ⟨g, off, m, cap, rfl, hcell⟩ := hrd w hs k v hc
    have hx' := hf.eval hx
    simp only [pv] at hx'
    simp [execOp, ho, hx', run_load1 T.agg hcell]

theorem q_ldk_of {x : Operand} {t : TypeId} {k sz : Nat} {s : Value} {ys us : List Value} (hrd : ∀ w, St w0 S0 L w → RdV w s ys) (ho : o.op = .load t x) (hx : ev F x = some (pv s k)) [T : AgTy P t sz] (h0 : 0 < sz) (hl : us.length = sz) (hc : (ys.drop k).take sz = us) : R1 P w0 S0 n F L o (.agg us.toArray) :=
  q_of_run fun a hf w hs => by
    have hj : ∀ j u, us[j]? = some u → ys[k + j]? = some u := fun j u hj => by
      have hlt := (List.getElem?_eq_some_iff.1 hj).1
      rwa [← hc, List.getElem?_take, if_pos (by omega), List.getElem?_drop] at hj
    obtain ⟨u0, hu0⟩ : ∃ u, us[0]? = some u := ⟨us[0]'(by omega), List.getElem?_eq_getElem _⟩
    obtain ⟨g, off, m, cap, rfl, _⟩ := hrd w hs _ _ (hj 0 u0 hu0)
    have := run_loadk (P := P) (b := g) (off := off + k) (w := w) T.agg T.size hl (fun j u hju => by
      obtain ⟨g', off', m', cap', e, hcell⟩ := hrd w hs _ _ (hj j u hju)
      simp only [Value.slice.injEq, Option.some.injEq, Addr.mk.injEq] at e
      obtain ⟨⟨rfl, rfl, _⟩, _, _⟩ := e
      rw [Nat.add_assoc]; exact hcell)
    have hx' := hf.eval hx
    simp only [pv] at hx'
    simp [execOp, ho, hx', this]

theorem q_ld_ro {x : Operand} {t : TypeId} {k : Nat} {s : Value} {ys : List Value} (hr : RO w0 S0 s ys) (ho : o.op = .load t x) (hx : ev F x = some (pv s k)) (hc : ys[k]? = some v) [T : ScTy P t] : R1 P w0 S0 n F L o v :=
  q_ld_of (fun _ hs => hs.rd hr) ho hx hc
theorem q_ldk_ro {x : Operand} {t : TypeId} {k sz : Nat} {s : Value} {ys us : List Value} (hr : RO w0 S0 s ys) (ho : o.op = .load t x) (hx : ev F x = some (pv s k)) [T : AgTy P t sz] (h0 : 0 < sz) (hl : us.length = sz) (hc : (ys.drop k).take sz = us) : R1 P w0 S0 n F L o (.agg us.toArray) :=
  q_ldk_of (fun _ hs => hs.rd hr) ho hx h0 hl hc
theorem q_ld_row {x : Operand} {t e : TypeId} {k sz m : Nat} {s : Value} {ys : List Value} (ho : o.op = .load t x) (hx : ev F x = some (pv s k)) (hL : rowHP s e sz m ys ∈ L) (hc : ys[k]? = some v) [T : ScTy P t] : R1 P w0 S0 n F L o v :=
  q_ld_of (fun _ hs => (hs.mem hL).elim fun _ h => rowHP_rd h) ho hx hc
theorem q_ldk_row {x : Operand} {t e : TypeId} {k z sz m : Nat} {s : Value} {ys us : List Value} (ho : o.op = .load t x) (hx : ev F x = some (pv s k)) (hL : rowHP s e z m ys ∈ L) [T : AgTy P t sz] (h0 : 0 < sz) (hl : us.length = sz) (hc : (ys.drop k).take sz = us) : R1 P w0 S0 n F L o (.agg us.toArray) :=
  q_ldk_of (fun _ hs => (hs.mem hL).elim fun _ h => rowHP_rd h) ho hx h0 hl hc

theorem q_ldk_ro3 {x : Operand} {t : TypeId} {k sz : Nat} {s : Value} {ys us : List Value} (hr : RO w0 S0 s ys) (ho : o.op = .load t x) (hx : ev F x = some (pv s k)) [T : AgTy P t sz] (h0 : 0 < sz) (hc : (ys.drop k).take sz = us) (hl : us.length = sz) : R1 P w0 S0 n F L o (.agg us.toArray) := q_ldk_ro hr ho hx h0 hl hc
theorem q_ldk_row3 {x : Operand} {t e : TypeId} {k z sz m : Nat} {s : Value} {ys us : List Value} (ho : o.op = .load t x) (hx : ev F x = some (pv s k)) (hL : rowHP s e z m ys ∈ L) [T : AgTy P t sz] (h0 : 0 < sz) (hc : (ys.drop k).take sz = us) (hl : us.length = sz) : R1 P w0 S0 n F L o (.agg us.toArray) := q_ldk_row ho hx hL h0 hl hc
theorem q_ldk_box3 {x : Operand} {t tb : TypeId} {b off k : Nat} {cs us : List Value} (ho : o.op = .load t x) (hx : ev F x = some (.pointer (some ⟨b, off, none⟩))) (hL : boxHP b tb cs ∈ L) [T : AgTy P t k] (hc : (cs.drop off).take k = us) (hl : us.length = k) : R1 P w0 S0 n F L o (.agg us.toArray) := q_ldk_box ho hx hL hl hc
/-! what makes or changes memory -/
theorem Reach.imp {R R' : Act → World → Prop} (hR : ∀ a w, R a w → R' a w) (h : Reach w0 S0 n F L R) : Reach w0 S0 n F L R' := fun a w hf hs => hR _ _ (h a w hf hs)

/-- An operation that yields a value and changes the world. -/
theorem l_loud {R : Act → World → Prop} (h : ∀ a, Fr F n a → ∀ w, St w0 S0 L w → ∃ u w', (execOp a.eval o).run P w = .ok u w' ∧ ((∃ v, u = .value v ∧ ∃ F' L', Fr F' n (a.put o.dst v) ∧ St w0 S0 L' w' ∧ Reach w0 S0 n F' L' R) ∨ (u = .skip ∧ ∃ L', o.dst = none ∧ St w0 S0 L' w' ∧ Reach w0 S0 n F L' R))) : Reach w0 S0 n F L (fun a w => o.wp P a w R Q) := by
  intro a w hf hs
  obtain ⟨u, w', hr, h⟩ := h a hf w hs
  unfold Oper.wp
  rw [hr]
  rcases h with ⟨v, rfl, F', L', hf', hs', hc⟩ | ⟨rfl, L', hd, hs', hc⟩
  · exact hc _ _ hf' hs'
  · rw [Oper.upon_skip, hd]
    exact hc _ _ hf hs'

/-- .. in a region that draws nothing -/
theorem s_of_l (hg : o.guard = none) (h : ∀ R : Act → World → Prop, (∀ a w, wpList P ops Q rest a w → R a w) → Reach w0 S0 n F L (fun a w => o.wp P a w R Q)) : Reach w0 S0 n F L (wpList P ops Q (o :: rest)) := by
  intro a w hf hs
  exact wpList_plain hg fun K hK => h K hK a w hf hs

theorem mod_alloc (w : World) (ob : Obj) : Mod w (fun _ => False) (w.alloc ob) (fun k => w.heap.size ≤ k) :=
  ⟨rfl, rfl, rfl, by simp, fun k hk _ => Below.heap_alloc w ob k hk, fun _ h => .inr h⟩

theorem run_newRow {e : TypeId} {cs : Array Value} {w : World} : (newRow e cs).run P w = .ok ⟨w.heap.size, 0, none⟩ (w.alloc (.cells cs e (0, 0))) := rfl

theorem l_box {R : Act → World → Prop} {x : Operand} {t : TypeId} {u : Value} (ho : o.op = .box t x) (hd : o.dst = some d) (hn : Nat.blt d n = true) (hx : ev F x = some u)
    (h : ∀ b, Reach w0 S0 n ((d, .pointer (some ⟨b, 0, none⟩)) :: F) (boxHP b t u.cells.toList :: L) R) : Reach w0 S0 n F L (fun a w => o.wp P a w R Q) := by
  refine l_loud fun a hf w hs => ⟨_, _, by simp only [execOp, ho, hf.eval hx, Instr.box, newVar, Sem.run_bind, run_newRow, Result.andThen_ok, Sem.run_pure]; rfl, .inl ⟨_, rfl, _, _, by rw [hd]; exact hf.put hn, ?_, h w.heap.size⟩⟩
  refine hs.push (M := [_]) (mod_alloc w _) ⟨fun k => w.heap.size ≤ k, fun _ => False, fun k hk => hk, fun k hk => hk.elim, fun k _ hk => hk, ⟨Nat.le_refl _, by simpa using heap_alloc_new w _⟩, trivial⟩

theorem l_alloc {R : Act → World → Prop} {t : TypeId} {z : Value} (ho : o.op = .alloc t) (hd : o.dst = some d) (hn : Nat.blt d n = true) [T : ZrTy P t z]
    (h : ∀ b, Reach w0 S0 n ((d, .pointer (some ⟨b, 0, none⟩)) :: F) (boxHP b t z.cells.toList :: L) R) : Reach w0 S0 n F L (fun a w => o.wp P a w R Q) := by
  refine l_loud fun a hf w hs => ⟨_, _, by simp only [execOp, ho, Instr.alloc, T.z, newVar, Sem.run_bind, run_newRow, Result.andThen_ok, Sem.run_pure]; rfl, .inl ⟨_, rfl, _, _, by rw [hd]; exact hf.put hn, ?_, h w.heap.size⟩⟩
  refine hs.push (M := [_]) (mod_alloc w _) ⟨fun k => w.heap.size ≤ k, fun _ => False, fun k hk => hk, fun k hk => hk.elim, fun k _ hk => hk, ⟨Nat.le_refl _, by simpa using heap_alloc_new w _⟩, trivial⟩

/-! stores -/
theorem setCell_blk {w : World} {b off : Nat} {cur : Array Value} {t : TypeId} {u : Value} (h : w.heap[b]? = some (.cells cur t (0, 0))) : (w.setCell ⟨b, off, none⟩ u).heap[b]? = some (.cells (cur.setIfInBounds off u) t (0, 0)) := by
  have hlt := (Array.getElem?_eq_some_iff.1 h).1
  have h' := (Array.getElem?_eq_some_iff.1 h).2
  simp [World.setCell, Array.getElem?_modify, Array.getElem?_eq_getElem hlt, h']

theorem mod_setCell {w : World} {S : FS} {b off : Nat} {u : Value} (hb : S b) : Mod w S (w.setCell ⟨b, off, none⟩ u) S :=
  ⟨rfl, rfl, rfl, by simp [World.setCell], fun k hk hn => Below.heap_setCell w _ u k (fun e => hn (by rw [e]; exact hb)), fun k h => .inl h⟩

def putL {α : Type} (cs : List α) (off : Nat) : List α → List α
  | [] => cs
  | u :: us => putL (cs.set off u) (off + 1) us

theorem putL_length {α : Type} : ∀ (us cs : List α) (off : Nat), (putL cs off us).length = cs.length
  | [], _, _ => rfl
  | u :: us, cs, off => by rw [putL, putL_length us, List.length_set]

def setCells (w : World) (b off : Nat) : List Value → World
  | [] => w
  | u :: us => setCells (w.setCell ⟨b, off, none⟩ u) b (off + 1) us

theorem setCells_blk {b : Nat} {t : TypeId} : ∀ (us : List Value) {w : World} {off : Nat} {cur : Array Value}, w.heap[b]? = some (.cells cur t (0, 0)) → ∃ cur' : Array Value, (setCells w b off us).heap[b]? = some (.cells cur' t (0, 0)) ∧ cur'.toList = putL cur.toList off us
  | [], w, off, cur, h => ⟨cur, h, rfl⟩
  | u :: us, w, off, cur, h => by
    obtain ⟨cur', h1, h2⟩ := setCells_blk us (off := off + 1) (setCell_blk (off := off) (u := u) h)
    exact ⟨cur', h1, by rw [h2, Array.toList_setIfInBounds, putL]⟩

theorem mod_setCells {S : FS} {b : Nat} (hb : S b) : ∀ (us : List Value) {w : World} {off : Nat}, Mod w S (setCells w b off us) S
  | [], w, off => Mod.refl w S
  | u :: us, w, off => (mod_setCell hb).trans (mod_setCells hb us)

theorem storeCells_run {b o : Nat} {e : TypeId} : ∀ (us : List Value) (i : Nat) (w : World) (cur : Array Value), (∀ u ∈ us, u.oneCell' = true) → w.heap[b]? = some (.cells cur e (0, 0)) → o + i + us.length ≤ cur.size → (storeCells ⟨b, o, none⟩ us i).run P w = .ok () (setCells w b (o + i) us)
  | [], i, w, cur, _, _, _ => by simp [storeCells, setCells]
  | u :: us, i, w, cur, h1, hh, hl => by
    have hlt : o + i < cur.size := by simp at hl; omega
    have hadd : (⟨b, o, none⟩ : Addr).add i = ⟨b, o + i, none⟩ := by
      by_cases h0 : i = 0
      · subst h0; rfl
      · simp [Addr.add, h0]
    have hc : w.cell? ⟨b, o + i, none⟩ = some cur[o + i] := by simp [World.cell?, hh, hlt]
    have hf : w.frozen? ⟨b, o + i, none⟩ = false := by simp [World.frozen?, hh]
    have hno : (store ⟨b, o + i, none⟩ u).run P w = .ok () (w.setCell ⟨b, o + i, none⟩ u) := by
      have hu := h1 u (by simp)
      cases u <;> first | (simp [Value.oneCell'] at hu; done) | (simp [store, Sem.run, hc, hf])
    have ih := storeCells_run (o := o) us (i + 1) (w.setCell ⟨b, o + i, none⟩ u) _ (fun u hu => h1 u (by simp [hu])) (setCell_blk hh) (by simp at hl ⊢; omega)
    simp only [storeCells, hadd, Sem.run_bind, hno, Result.andThen_ok, ih, setCells]
    rw [Nat.add_assoc]

theorem run_storek {t : TypeId} {b off sz : Nat} {u : Value} {us : List Value} {w : World} {cur : Array Value} {e : TypeId} (hz : ∀ w, (sizeOf t).run P w = .ok sz w) (hu : u.cells.toList = us) (hl : us.length = sz) (h1 : ∀ u ∈ us, u.oneCell' = true) (hh : w.heap[b]? = some (.cells cur e (0, 0))) (hlt : off + sz ≤ cur.size) : (Instr.storeAt t (.pointer (some ⟨b, off, none⟩)) u).run P w = .ok () (setCells w b off us) := by
  have hs : u.cells.size = sz := by rw [← hl, ← hu]; simp
  have := storeCells_run (P := P) (b := b) (o := off) us 0 w cur h1 hh (by omega)
  simp only [Instr.storeAt, Instr.sureAddr, storeVar, Sem.run_bind, Sem.run_pure, Result.andThen_ok, hz, hs, ne_eq, not_true_eq_false, if_false, hu, this, Nat.add_zero]

theorem one_cells {u : Value} (h : u.oneCell' = true) : u.cells.toList = [u] := by
  cases u <;> first | rfl | (simp [Value.oneCell'] at h)

theorem Shp.one {v : Value} {m : Nat} (h : Shp v m) : v.oneCell' = true := by
  rcases h.2 with ⟨rfl, _⟩ | ⟨g, off, cap, rfl, _⟩ <;> rfl

/-- a store into a box -/
theorem l_stk_box {R : Act → World → Prop} {x y : Operand} {t tb : TypeId} {b off i sz : Nat} {u : Value} {us cs : List Value} (ho : o.op = .store t x y) (hd : o.dst = none) (hx : ev F x = some (.pointer (some ⟨b, off, none⟩))) (hy : ev F y = some u) (hu : u.cells.toList = us) (hl : us.length = sz) (h1 : ∀ u ∈ us, u.oneCell' = true) (hL : L[i]? = some (boxHP b tb cs)) (hlt : off + sz ≤ cs.length) (hz : ∀ w, (sizeOf t).run P w = .ok sz w)
    (h : Reach w0 S0 n F (L.set i (boxHP b tb (putL cs off us))) R) : Reach w0 S0 n F L (fun a w => o.wp P a w R Q) := by
  refine l_loud fun a hf w hs => ?_
  obtain ⟨S, hsat⟩ := hs.mem (List.mem_of_getElem? hL)
  refine ⟨_, _, by simp only [execOp, ho, hf.eval hx, hf.eval hy, Sem.run_bind, run_storek hz hu hl h1 hsat.2 (by simpa using hlt), Result.andThen_ok, Sem.run_pure]; rfl, .inr ⟨rfl, _, hd, ?_, h⟩⟩
  refine hs.step hL fun S hsat => ⟨S, mod_setCells hsat.1 us, hsat.1, ?_⟩
  obtain ⟨cur', h1, h2⟩ := setCells_blk us (off := off) hsat.2
  rw [h1, ← h2]

theorem l_st_box {R : Act → World → Prop} {x y : Operand} {t tb : TypeId} {b off i : Nat} {u : Value} {cs : List Value} (ho : o.op = .store t x y) (hd : o.dst = none) (hx : ev F x = some (.pointer (some ⟨b, off, none⟩))) (hy : ev F y = some u) (hu : u.oneCell' = true) (hL : L[i]? = some (boxHP b tb cs)) (hlt : off < cs.length) [T : ScTy P t]
    (h : Reach w0 S0 n F (L.set i (boxHP b tb (cs.set off u))) R) : Reach w0 S0 n F L (fun a w => o.wp P a w R Q) :=
  l_stk_box (us := [u]) ho hd hx hy (one_cells hu) rfl (by simpa using hu) hL hlt T.size h

theorem take_drop_set {α : Type} {l : List α} {off k m : Nat} {u : α} (hk : k < m) : ((l.set (off + k) u).drop off).take m = ((l.drop off).take m).set k u := by
  apply List.ext_getElem?
  intro j
  simp only [List.getElem?_take, List.getElem?_drop, List.getElem?_set, List.length_take, List.length_drop]
  by_cases hj : j < m
  · rw [if_pos hj]
    by_cases e : k = j
    · subst e
      by_cases h2 : off + k < l.length
      · rw [if_pos rfl, if_pos h2, if_pos rfl, if_pos (by omega)]
      · rw [if_pos rfl, if_neg h2, if_pos rfl, if_neg (by omega)]
    · rw [if_neg (by omega), if_neg e, if_pos hj]
  · rw [if_neg hj]
    rw [if_neg (by omega), if_neg hj]

theorem take_drop_putL {α : Type} : ∀ (us : List α) (l : List α) (off k m : Nat), k + us.length ≤ m → ((putL l (off + k) us).drop off).take m = putL ((l.drop off).take m) k us
  | [], _, _, _, _, _ => rfl
  | u :: us, l, off, k, m, h => by
    simp only [List.length_cons] at h
    rw [putL, Nat.add_assoc, take_drop_putL us _ off (k + 1) m (by omega), take_drop_set (by omega), putL]

/-- a store into a row -/
theorem l_stk_row {R : Act → World → Prop} {x y : Operand} {t e : TypeId} {k sz z m i : Nat} {s u : Value} {us ys : List Value} (ho : o.op = .store t x y) (hd : o.dst = none) (hx : ev F x = some (pv s k)) (hy : ev F y = some u) (hu : u.cells.toList = us) (hl : us.length = z) (h1 : ∀ u ∈ us, u.oneCell' = true) (hL : L[i]? = some (rowHP s e sz m ys)) (hz0 : 0 < z) (hlt : k + z ≤ m * sz) (hz : ∀ w, (sizeOf t).run P w = .ok z w)
    (h : Reach w0 S0 n F (L.set i (rowHP s e sz m (putL ys k us))) R) : Reach w0 S0 n F L (fun a w => o.wp P a w R Q) := by
  refine l_loud fun a hf w hs => ?_
  obtain ⟨S, hsat⟩ := hs.mem (List.mem_of_getElem? hL)
  rcases hsat.2 with ⟨q1, rfl⟩ | ⟨g, off, cap, cur, q1, q2, q3, q4, q5, q6, q7⟩ | ⟨_, rfl⟩
  · simp at hlt; omega
  · subst q1
    have hx' := hf.eval hx
    simp only [pv] at hx'
    have hkc : off + k + z ≤ cur.size := by have := Nat.mul_le_mul_right sz q4; omega
    refine ⟨_, _, by simp only [execOp, ho, hx', hf.eval hy, Sem.run_bind, run_storek hz hu hl h1 q3 hkc, Result.andThen_ok, Sem.run_pure]; rfl, .inr ⟨rfl, _, hd, ?_, h⟩⟩
    refine hs.step hL fun S hsat => ?_
    rcases hsat.2 with ⟨p1, rfl⟩ | ⟨g', off', cap', cur', p1, p2, p3, p4, p5, p6, p7⟩ | ⟨_, rfl⟩
    · simp at hlt; omega
    · simp only [Value.slice.injEq, Option.some.injEq, Addr.mk.injEq] at p1
      obtain ⟨⟨rfl, rfl, _⟩, _, rfl⟩ := p1
      obtain ⟨cur2, r1, r2⟩ := setCells_blk us (off := off + k) p3
      refine ⟨S, mod_setCells p2 us, by rw [putL_length]; exact hsat.1, .inr (.inl ⟨g, off, cap, cur2, rfl, p2, r1, p4, p5, ?_, ?_⟩)⟩
      · rw [← Array.length_toList, r2, putL_length, Array.length_toList, p6]
      · rw [r2, take_drop_putL us _ _ _ _ (by omega), p7]
    · simp at hlt; omega
  · simp at hlt; omega

theorem l_st_row {R : Act → World → Prop} {x y : Operand} {t e : TypeId} {k sz m i : Nat} {s u : Value} {ys : List Value} (ho : o.op = .store t x y) (hd : o.dst = none) (hx : ev F x = some (pv s k)) (hy : ev F y = some u) (hu : u.oneCell' = true) (hL : L[i]? = some (rowHP s e sz m ys)) (hlt : k < m * sz) [T : ScTy P t]
    (h : Reach w0 S0 n F (L.set i (rowHP s e sz m (ys.set k u))) R) : Reach w0 S0 n F L (fun a w => o.wp P a w R Q) :=
  l_stk_row (us := [u]) ho hd hx hy (one_cells hu) rfl (by simpa using hu) hL Nat.one_pos (Nat.succ_le_of_lt hlt) T.size h

/-! new rows -/
theorem row_of_owns {w : World} {base : Nat} {e : TypeId} {sz : Nat} {v : Value} {m : Nat} {ys : List Value} (h : w.ownsRow base e sz v m ys) : (rowHP v e sz m ys).sat (fun k => v.ownBlock = some k) w := by
  refine ⟨h.1, h.2.imp id fun hh => .inl ?_⟩
  revert hh
  rintro ⟨g, cap, cur, rfl, _, h2, h3, h4, h5, h6⟩
  exact ⟨g, 0, cap, cur, rfl, rfl, h2, h3, h4, by omega, by simpa using h6⟩

theorem St.fresh {w w' : World} {b : Nat} {M : HP} (h : St w0 S0 L w) (hb : Mod w (fun _ => False) w' (fun k => w.heap.size ≤ k)) (hs : M.sat (fun k => w.heap.size ≤ k) w') : St w0 S0 (M :: L) w' :=
  h.push (M := [M]) hb ⟨fun k => w.heap.size ≤ k, fun _ => False, fun k hk => hk, fun k hk => hk.elim, fun k _ hk => hk, hs, trivial⟩

theorem l_make {R : Act → World → Prop} {x y : Operand} {t e : TypeId} {z : Value} {sz bytes : Nat} {i : Int} (ho : o.op = .makeSlice t x y) (hd : o.dst = some d) (hn : Nat.blt d n = true) (hx : ev F x = some (.int .i64 i)) (hy : ev F y = some (.int .i64 i)) [T : SlTy P t e z sz bytes] (h0 : 0 ≤ i) (hl : i.toNat * bytes ≤ 281474976710656)
    (h : ∀ v, Shp v i.toNat → Reach w0 S0 n ((d, v) :: F) (rowHP v e sz i.toNat (madeCells z.cells (i.toNat * sz)).toList :: L) R) : Reach w0 S0 n F L (fun a w => o.wp P a w R Q) := by
  have ht := T.u
  have hb0 := T.bpos
  obtain ⟨i0, hi, hzz⟩ := Option.map_eq_some_iff.1 T.info
  simp only [Prod.mk.injEq] at hzz
  obtain ⟨hz0, hz1, hz2⟩ := hzz
  subst hz1
  subst hz2
  clear T
  obtain ⟨m, rfl⟩ := Int.eq_ofNat_of_zero_le h0
  simp only [Int.toNat_natCast] at *
  have hml : m ≤ maxLen := by simp only [maxLen]; have := Nat.le_mul_of_pos_right m hb0; omega
  have hli : (i0.bytes : Int) * (m : Int) ≤ 281474976710656 := by
    have h : ((m * i0.bytes : Nat) : Int) ≤ 281474976710656 := by omega
    rw [Int.natCast_mul] at h
    rw [Int.mul_comm]
    exact h
  refine l_loud fun a hf w hs => ?_
  have hr := run_make (P := P) w t e i0 z ht hi hz0 .i64 .i64 (m : Int) (m : Int) (by omega) (Int.le_refl _) hli (by simp only [maxLen] at hml; omega)
  simp only [Int.toNat_natCast] at hr
  have hshape : Shp (.slice (some ⟨w.heap.size, 0, none⟩) m m) m := ⟨hml, .inr ⟨_, _, _, rfl, Nat.le_refl _, hml⟩⟩
  refine ⟨_, _, by simp only [execOp, ho, hf.eval hx, hf.eval hy, Sem.run_bind, hr, Result.andThen_ok, Sem.run_pure]; rfl, .inl ⟨_, rfl, _, _, by rw [hd]; exact hf.put hn, ?_, h _ hshape⟩⟩
  refine hs.fresh (b := 0) (mod_alloc w _) ⟨by simp [madeCells], .inr (.inl ⟨w.heap.size, 0, m, _, rfl, Nat.le_refl _, heap_alloc_new w _, Nat.le_refl _, hml, by simp [madeCells], ?_⟩)⟩
  rw [List.drop_zero]
  exact List.take_of_length_le (by simp [madeCells])

/-- a row out of parts: '[]T{a, b}', a variadic's box -/
theorem l_mkrow {R : Act → World → Prop} {parts : Array (Nat × Operand)} {t e : TypeId} {k sz : Nat} {cs : List Value} (ho : o.op = .buildSlice t k parts) (hd : o.dst = some d) (hn : Nat.blt d n = true)
    (hb : ∀ a, Fr F n a → ∀ w, (Instr.buildSlice t k (parts.map fun (i, x) => (i, a.eval x))).run P w = .ok (.slice (some ⟨w.heap.size, 0, none⟩) k k) (w.alloc (.cells cs.toArray e (0, 0)))) (hl : cs.length = k * sz) (hk : k ≤ maxLen)
    (h : ∀ v, Shp v k → Reach w0 S0 n ((d, v) :: F) (rowHP v e sz k cs :: L) R) : Reach w0 S0 n F L (fun a w => o.wp P a w R Q) := by
  refine l_loud fun a hf w hs => ?_
  have hshape : Shp (.slice (some ⟨w.heap.size, 0, none⟩) k k) k := ⟨hk, .inr ⟨_, _, _, rfl, Nat.le_refl _, hk⟩⟩
  refine ⟨_, _, by simp only [execOp, ho, Sem.run_bind, hb a hf w, Result.andThen_ok, Sem.run_pure]; rfl, .inl ⟨_, rfl, _, _, by rw [hd]; exact hf.put hn, ?_, h _ hshape⟩⟩
  refine hs.fresh (b := 0) (mod_alloc w _) ⟨hl, .inr (.inl ⟨w.heap.size, 0, k, _, rfl, Nat.le_refl _, heap_alloc_new w _, Nat.le_refl _, hk, by simp [hl], ?_⟩)⟩
  rw [List.drop_zero]
  exact List.take_of_length_le (by simp [hl])

theorem run_append_mid {w : World} (t ty e : TypeId) (i : TypeInfo) (ht : P.underlying t = some (.slice e)) (hi : P.info? e = some i)
    (g off sLen sCap : Nat) (cur : Array Value) (hg : w.heap[g]? = some (.cells cur e (0, 0)))
    (a : Addr) (m c : Nat) (news : List Value) (hl : news.length = m * i.size) (hnews : ∀ j u, news[j]? = some u → w.cell? (a.add j) = some u) (h1 : ∀ u ∈ news, u.oneCell' = true)
    (hroom : sLen + m ≤ sCap) (hfit : off + sLen * i.size + news.length ≤ cur.size) :
    (Builtin.append_ #[t, t] ty #[.slice (some ⟨g, off, none⟩) sLen sCap, .slice (some a) m c]).run P w =
      .ok (.slice (some ⟨g, off, none⟩) (sLen + m) sCap) (w.setRow g (cur.toList.take (off + sLen * i.size) ++ news ++ cur.toList.drop (off + sLen * i.size + news.length)).toArray) := by
  have hf := run_firstCells_some (P := P) w i.size m a m c news hl hnews
  have hadd : (⟨g, off, none⟩ : Addr).add (sLen * i.size) = ⟨g, off + sLen * i.size, none⟩ := by
    by_cases h0 : sLen * i.size = 0
    · rw [h0]; rfl
    · simp [Addr.add, h0]
  have hst := run_storeCells_at P g (off + sLen * i.size) e news 0 cur w hg (by simpa using hfit) h1
  simp only [Nat.add_zero] at hst
  simp [Builtin.append_, run_underlying ht, sizeOf, typeInfo, hi, Builtin.lenOf, hroom, hf, hadd, hst]

theorem pv_addr {w : World} {a : Addr} {m c : Nat} {news : List Value} (h : RdV w (.slice (some a) m c) news) : ∀ j u, news[j]? = some u → w.cell? (a.add j) = some u := by
  intro j u hj
  obtain ⟨g, off, m', cap, e, hc⟩ := h j u hj
  simp only [Value.slice.injEq, Option.some.injEq] at e
  obtain ⟨rfl, _, _⟩ := e
  by_cases h0 : j = 0
  · subst h0; simpa [Addr.add] using hc
  · simpa [Addr.add, h0] using hc

theorem run_append_row {w : World} (t ty e : TypeId) (z : Value) (sz bytes : Nat) (ht : P.underlying t = some (.slice e)) (hinfo : (P.info? e).map (fun i => (i.zero, i.size, i.bytes)) = some (some z, sz, bytes)) (hzs : z.cells.size = sz) (hs0 : 0 < sz)
    {s x : Value} {m k : Nat} {ys news : List Value} {S : FS} (hsat : (rowHP s e sz m ys).sat S w) (hx : Shp x k) (hrd : RdV w x news) (hl : news.length = k * sz) (h1 : ∀ u ∈ news, u.oneCell' = true) (hb0 : 0 < bytes) (hb : (m + k) * bytes ≤ 140737488355328) :
    ∃ v' w' S', (Builtin.append_ #[t, t] ty #[s, x]).run P w = .ok v' w' ∧ (rowHP v' e sz (m + k) (ys ++ news)).sat S' w' ∧ Mod w S w' S' := by
  obtain ⟨i0, hi, hzz⟩ := Option.map_eq_some_iff.1 hinfo
  simp only [Prod.mk.injEq] at hzz
  obtain ⟨hz0, hz1, hz2⟩ := hzz
  subst hz1
  subst hz2
  have hmk : m + k ≤ 140737488355328 := Nat.le_trans (Nat.le_mul_of_pos_right _ hb0) hb
  have hlen : (ys ++ news).length = (m + k) * i0.size := by rw [List.length_append, hsat.1, hl, Nat.add_mul]
  -- x of no element
  by_cases hk : x = .slice none 0 0
  · subst hk
    have hk0 : k = 0 := by
      rcases hx.2 with ⟨_, h⟩ | ⟨_, _, _, h, _⟩
      · exact h
      · simp at h
    subst hk0
    have hn : news = [] := List.eq_nil_of_length_eq_zero (by simpa using hl)
    subst hn
    refine ⟨s, w, S, ?_, by simpa using hsat, Mod.refl w S⟩
    rcases hsat.2 with ⟨rfl, rfl⟩ | ⟨g, off, cap, cur, rfl, q2, q3, q4, q5, q6, q7⟩ | ⟨⟨g, off, rfl⟩, rfl⟩
    · simp [Builtin.append_, run_underlying ht, sizeOf, typeInfo, hi, Builtin.lenOf, Builtin.firstCells]
    · simp [Builtin.append_, run_underlying ht, sizeOf, typeInfo, hi, Builtin.lenOf, Builtin.firstCells, q4, storeCells]
    · simp [Builtin.append_, run_underlying ht, sizeOf, typeInfo, hi, Builtin.lenOf, Builtin.firstCells, storeCells]
  · obtain ⟨a, c, rfl⟩ : ∃ a c, x = .slice (some a) k c := by
      rcases hx.2 with ⟨h, _⟩ | ⟨g, off, cap, h, _⟩
      · exact absurd h hk
      · exact ⟨_, _, h⟩
    have hnews := pv_addr hrd
    have grown : ∀ (need old : Nat), need = m + k → ∀ pre : List Value, pre ++ news = ys ++ news → ∀ S,
        (rowHP (.slice (some ⟨w.heap.size, 0, none⟩) need (grownCap w need old e)) e i0.size (m + k) (ys ++ news)).sat (fun k => k = w.heap.size) (w.drew.alloc (.cells (pre.toArray ++ news.toArray ++ Builtin.zeroCells z.cells (grownCap w need old e - need)) e)) ∧ Mod w S (w.drew.alloc (.cells (pre.toArray ++ news.toArray ++ Builtin.zeroCells z.cells (grownCap w need old e - need)) e)) (fun k => k = w.heap.size) := by
      intro need old hn pre hpre S
      subst hn
      have hpre' : pre = ys := List.append_cancel_right hpre
      subst hpre'
      have hge := grownCap_ge w (m + k) old e
      have hcm : grownCap w (m + k) old e ≤ maxLen := grownCap_le_maxLen w (m + k) old e (by simp only [maxLen]; omega)
      refine ⟨⟨hlen, .inr (.inl ⟨w.heap.size, 0, _, _, rfl, rfl, heap_alloc_new w.drew _, hge, hcm, ?_, ?_⟩)⟩, ⟨rfl, rfl, rfl, by simp, fun k hk _ => Below.heap_alloc w.drew _ k hk, fun k hk => .inr (by rw [hk]; exact Nat.le_refl _)⟩⟩
      · simp only [Array.size_append, List.size_toArray, size_zeroCells, hzs, hsat.1, hl, ← Nat.add_mul, Nat.zero_add]
        congr 1
        omega
      · simp only [Array.toList_append, List.append_assoc, List.drop_zero]
        rw [← List.append_assoc, ← hlen]
        exact List.take_left
    rcases hsat.2 with ⟨rfl, rfl⟩ | ⟨g, off, cap, cur, rfl, q2, q3, q4, q5, q6, q7⟩ | ⟨⟨g, off, rfl⟩, rfl⟩
    · have hy : ys = [] := List.eq_nil_of_length_eq_zero (by simpa using hsat.1)
      subst hy
      by_cases hk0 : k = 0
      · subst hk0
        have hn : news = [] := List.eq_nil_of_length_eq_zero (by simpa using hl)
        subst hn
        refine ⟨.slice none 0 0, w, S, ?_, by simpa using hsat, Mod.refl w S⟩
        simp [Builtin.append_, run_underlying ht, sizeOf, typeInfo, hi, Builtin.lenOf, Builtin.firstCells, loadCells, loadCellsFrom]
      · have hr := run_append_nil (P := P) w t ty e i0 z ht hi hz0 a k c news hl hnews (by omega) (by omega) (by have hb := hb; simp only [Nat.zero_add] at hb; omega)
        have hgr := grown k 0 (by omega) [] rfl S
        simp only [List.toArray, Array.empty_append] at hgr
        exact ⟨_, _, _, hr, by simpa using hgr.1, by simpa using hgr.2⟩
    · by_cases hroom : m + k ≤ cap
      · have hfit : off + m * i0.size + news.length ≤ cur.size := by
          have := Nat.mul_le_mul_right i0.size hroom
          rw [Nat.add_mul] at this
          rw [hl, q6]; omega
        have hr := run_append_mid (P := P) (w := w) t ty e i0 ht hi g off m cap cur q3 a k c news hl hnews h1 hroom hfit
        refine ⟨_, _, S, hr, ⟨hlen, .inr (.inl ⟨g, off, cap, _, rfl, q2, setRow_heap w g cur _ e _ q3, hroom, q5, ?_, ?_⟩)⟩, ⟨rfl, rfl, rfl, by simp [World.setRow], fun k _ hk => setRow_other w g k _ (fun e => hk (by rw [e]; exact q2)), fun k h => .inl h⟩⟩
        · simp only [List.size_toArray, List.length_append, List.length_take, List.length_drop, Array.length_toList]
          omega
        · simp only [List.append_assoc]
          rw [List.drop_append_of_le_length (by rw [List.length_take, Array.length_toList]; omega), List.drop_take, show off + m * i0.size - off = m * i0.size from by omega, q7, ← List.append_assoc, ← hlen]
          exact List.take_left
      · have holds : ∀ j u, ys[j]? = some u → w.cell? ((⟨g, off, none⟩ : Addr).add j) = some u := pv_addr (rowHP_rd hsat)
        have hr := run_append_grow (P := P) w t ty e i0 z ht hi hz0 ⟨g, off, none⟩ m cap ys hsat.1 holds a k c news hl hnews (by omega) (by omega) (growslice_fits (by omega) hb)
        have hgr := grown (m + k) cap rfl ys rfl S
        exact ⟨_, _, _, hr, hgr.1, hgr.2⟩
    · have hy : ys = [] := List.eq_nil_of_length_eq_zero (by simpa using hsat.1)
      subst hy
      by_cases hk0 : k = 0
      · subst hk0
        have hn : news = [] := List.eq_nil_of_length_eq_zero (by simpa using hl)
        subst hn
        refine ⟨.slice (some ⟨g, off, none⟩) 0 0, w, S, ?_, by simpa using hsat, Mod.refl w S⟩
        simp [Builtin.append_, run_underlying ht, sizeOf, typeInfo, hi, Builtin.lenOf, Builtin.firstCells, loadCells, loadCellsFrom, storeCells]
      · have hr := run_append_grow (P := P) w t ty e i0 z ht hi hz0 ⟨g, off, none⟩ 0 0 [] hsat.1 (fun j u hj => by simp at hj) a k c news hl hnews (by omega) (by omega) (growslice_fits (by omega) hb)
        have hgr := grown (0 + k) 0 rfl [] rfl S
        exact ⟨_, _, _, hr, hgr.1, hgr.2⟩

/-- append(s, x...): s a row of one's own; x read -/
theorem l_append_of {R : Act → World → Prop} {x y : Operand} {t e : TypeId} {z s u : Value} {sz bytes m k i : Nat} {ys news : List Value} (hrd : ∀ w, St w0 S0 L w → RdV w u news) (ho : o.op = .call { callee := .builtin .append, args := #[x, y], argTypes := #[t, t] }) (hd : o.dst = some d) (hn : Nat.blt d n = true) (hx : ev F x = some s) (hy : ev F y = some u) [T : SlTy P t e z sz bytes]
    (hL : L[i]? = some (rowHP s e sz m ys)) (hu : Shp u k) (hl : news.length = k * sz) (h1 : ∀ u ∈ news, u.oneCell' = true) (hb : (m + k) * bytes ≤ 140737488355328)
    (h : ∀ v, Shp v (m + k) → Reach w0 S0 n ((d, v) :: F) (L.set i (rowHP v e sz (m + k) (ys ++ news))) R) : Reach w0 S0 n F L (fun a w => o.wp P a w R Q) := by
  refine l_loud fun a hf w hs => ?_
  obtain ⟨S, hsat⟩ := hs.mem (List.mem_of_getElem? hL)
  obtain ⟨v', w', S', hr, hsat', hm⟩ := run_append_row (P := P) (w := w) t o.type e z sz bytes T.u T.info T.zs T.pos hsat hu (hrd w hs) hl h1 T.bpos hb
  refine ⟨_, _, by simp only [execOp, ho, resolve, invoke, builtin, Sem.run_bind, Sem.run_pure, Result.andThen_ok, List.map_toArray, List.map_cons, List.map_nil, hf.eval hx, hf.eval hy, hr]; rfl, .inl ⟨_, rfl, _, _, by rw [hd]; exact hf.put hn, ?_, h v' (rowHP_shp hsat')⟩⟩
  refine hs.step hL fun S2 hsat2 => ?_
  obtain ⟨v2, w2, S2', hr2, hsat2', hm2⟩ := run_append_row (P := P) (w := w) t o.type e z sz bytes T.u T.info T.zs T.pos hsat2 hu (hrd w hs) hl h1 T.bpos hb
  rw [hr] at hr2
  obtain ⟨rfl, rfl⟩ : v' = v2 ∧ w' = w2 := by simpa using hr2
  exact ⟨S2', hm2, hsat2'⟩

/-- onto the nil slice -/
theorem l_append_nil {R : Act → World → Prop} {x y : Operand} {t e : TypeId} {z u : Value} {sz bytes k : Nat} {news : List Value} (hrd : ∀ w, St w0 S0 L w → RdV w u news) (ho : o.op = .call { callee := .builtin .append, args := #[x, y], argTypes := #[t, t] }) (hd : o.dst = some d) (hn : Nat.blt d n = true) (hx : ev F x = some (.slice none 0 0)) (hy : ev F y = some u) [T : SlTy P t e z sz bytes]
    (hu : Shp u k) (hl : news.length = k * sz) (h1 : ∀ u ∈ news, u.oneCell' = true) (hb : k * bytes ≤ 140737488355328)
    (h : ∀ v, Shp v k → Reach w0 S0 n ((d, v) :: F) (rowHP v e sz k news :: L) R) : Reach w0 S0 n F L (fun a w => o.wp P a w R Q) := by
  refine l_loud fun a hf w hs => ?_
  have hsat : (rowHP (.slice none 0 0) e sz 0 []).sat (fun _ => False) w := ⟨by simp, .inl ⟨rfl, rfl⟩⟩
  obtain ⟨v', w', S', hr, hsat', hm⟩ := run_append_row (P := P) (w := w) t o.type e z sz bytes T.u T.info T.zs T.pos hsat hu (hrd w hs) hl h1 T.bpos (by simpa using hb)
  rw [Nat.zero_add, List.nil_append] at hsat'
  refine ⟨_, _, by simp only [execOp, ho, resolve, invoke, builtin, Sem.run_bind, Sem.run_pure, Result.andThen_ok, List.map_toArray, List.map_cons, List.map_nil, hf.eval hx, hf.eval hy, hr]; rfl, .inl ⟨_, rfl, _, _, by rw [hd]; exact hf.put hn, ?_, h v' (rowHP_shp hsat')⟩⟩
  have hn' : ∀ k, S' k → w.heap.size ≤ k := fun k hk => (hm.new k hk).elim (fun h => h.elim) id
  exact hs.fresh (b := 0) ⟨hm.os, hm.tape, hm.output, hm.size, hm.keep, fun k hk => .inr hk⟩ ((rowHP v' e sz k news).mono hn' hsat')
end
end Go.Sl
