/- Regions that draw their order and hold operations that change memory, by a plan: an order in which each operation either may be taken first (it only computes or reads) or is the only one that may come up. -/
import Derived.Test.YtkekpgkacjpjnaaSlAny
set_option linter.unusedVariables false
set_option linter.unusedSimpArgs false
namespace Go.Sl
open Go Go.RowKit

inductive PI where
  | mk (i : Nat) (t : Bool)
  /-- two that may come up now, in either order -/
  | rd (i j : Nat)
instance : Coe (Nat × Bool) PI := ⟨fun p => .mk p.1 p.2⟩
def PI.n : PI → Nat
  | .mk .. => 1
  | .rd .. => 2
def planLen : List PI → Nat
  | [] => 0
  | p :: l => planLen l + p.n

def planOk (ops : Array Oper) : Array Bool → List PI → Bool
  | listed, [] => (Region.ready .any ops listed).isEmpty
  | listed, .rd i j :: rest => (Region.ready .any ops listed == [i, j] || Region.ready .any ops listed == [j, i]) && Region.ready .any ops (listed.setIfInBounds i true) == [j] && Region.ready .any ops (listed.setIfInBounds j true) == [i] && planOk ops ((listed.setIfInBounds i true).setIfInBounds j true) rest && planOk ops ((listed.setIfInBounds j true).setIfInBounds i true) rest
  | listed, .mk i t :: rest => (if t then (Region.ready .any ops listed).contains i && Region.free .any ops listed i else Region.ready .any ops listed == [i]) && planOk ops (listed.setIfInBounds i true) rest

section
variable {P : Program} {w0 : World} {S0 : FS} {n : Nat} {F : List (Nat × Value)} {L Lk : List HP} {o : Oper} {ops : Array Oper} {Q : Exit → Act → World → Prop} {d i k : Nat} {v : Value} {listed : Array Bool} {rest : List PI}

def PW (P : Program) (ops : Array Oper) (Q : Exit → Act → World → Prop) (S : World → Prop) : List PI → Act → World → Prop
  | [], a, w => Q .normal a w
  | .rd i j :: rest, a, w => wpOp P ops Q i (fun a' w' => S w' ∧ wpOp P ops Q j (fun a' w' => S w' ∧ PW P ops Q S rest a' w') a' w') a w ∧ wpOp P ops Q j (fun a' w' => S w' ∧ wpOp P ops Q i (fun a' w' => S w' ∧ PW P ops Q S rest a' w') a' w') a w
  | .mk i true :: rest, a, w => ∃ o v, ops[i]? = some o ∧ YieldsIf P ops S o v a ∧ S w ∧ PW P ops Q S rest (a.put o.dst v) w
  | .mk i false :: rest, a, w => wpOp P ops Q i (fun a' w' => S w' ∧ PW P ops Q S rest a' w') a w

theorem pw_sound [T : PO Q] {S : World → Prop} (hs : Region.noSelect ops = true) : ∀ (plan : List PI) (listed : Array Bool) (a : Act) (w : World), planOk ops listed plan = true → PW P ops Q S plan a w → wpAnyH P .any ops Q S (planLen plan) listed a w
  | [], listed, a, w, hp, h => by
    have : Region.ready .any ops listed = [] := by simpa [planOk] using hp
    exact wpAnyH_done this h 0
  | .rd i j :: rest, listed, a, w, hp, h => by
    simp only [planOk, Bool.and_eq_true, Bool.or_eq_true, beq_iff_eq] at hp
    obtain ⟨⟨⟨⟨h1, h2⟩, h3⟩, h4⟩, h5⟩ := hp
    show wpAnyH P .any ops Q S (planLen rest + 2) listed a w
    have key : ∀ k, k = i ∨ k = j → wpOp P ops Q k (fun a' w' => S w' ∧ wpAnyH P .any ops Q S (planLen rest + 1) (listed.setIfInBounds k true) a' w') a w := by
      rintro k (rfl | rfl)
      · refine wpOp_mono (fun a' w' ⟨hS, h'⟩ => ⟨hS, wpAnyH_all h2 (by simp) fun k hk => ?_⟩) h.1
        obtain rfl : k = j := by simpa using hk
        exact wpOp_mono (fun a' w' ⟨h1, h2⟩ => ⟨h1, pw_sound hs rest _ _ _ h4 h2⟩) h'
      · refine wpOp_mono (fun a' w' ⟨hS, h'⟩ => ⟨hS, wpAnyH_all h3 (by simp) fun k hk => ?_⟩) h.2
        obtain rfl : k = i := by simpa using hk
        exact wpOp_mono (fun a' w' ⟨h1, h2⟩ => ⟨h1, pw_sound hs rest _ _ _ h5 h2⟩) h'
    rcases h1 with h1 | h1
    · exact wpAnyH_all h1 (by simp) fun k hk => key k (by simpa using hk)
    · exact wpAnyH_all h1 (by simp) fun k hk => key k (by simpa [or_comm] using hk)
  | .mk i true :: rest, listed, a, w, hp, h => by
    obtain ⟨o, v, ho, hy, hS, hr⟩ := h
    simp only [planOk, if_true, Bool.and_eq_true] at hp
    exact wpAnyH_take ho hs hp.1.2 hp.1.1 (fun c a w h => T.ok c a _ _ w h) hy hS (pw_sound hs rest _ _ _ hp.2 hr)
  | .mk i false :: rest, listed, a, w, hp, h => by
    simp only [planOk, Bool.and_eq_true, Bool.false_eq_true, if_false] at hp
    have e : Region.ready .any ops listed = [i] := by simpa using hp.1
    refine wpAnyH_all e (by simp) fun j hj => ?_
    obtain rfl : j = i := by simpa using hj
    exact wpOp_mono (fun a' w' ⟨h1, h2⟩ => ⟨h1, pw_sound hs rest _ _ _ hp.2 h2⟩) h

def RP (P : Program) (w0 : World) (S0 : FS) (n : Nat) (ops : Array Oper) (Q : Exit → Act → World → Prop) (Lk : List HP) (plan : List PI) (F : List (Nat × Value)) (L : List HP) : Prop :=
  Reach w0 S0 n F L (fun a w => PW P ops Q (St w0 S0 Lk) plan a w)

/-- plan: the numbers; those that are taken first bear 'true'. Lk: what no operation of the region turns. -/
theorem p_begin [T : PO Q] {id : Nat} {l : List Oper} (plan : List PI) (Lk : List HP) (hm : (P.follows .mixedOrders && Region.noSelect l.toArray && planOk l.toArray (Array.replicate l.toArray.size false) plan && (planLen plan == l.toArray.size)) = true)
    (h : RP P w0 S0 n l.toArray Q Lk plan F L) : Reach w0 S0 n F L ((Code.region id l.toArray true).wp P Q) := by
  simp only [Bool.and_eq_true, beq_iff_eq] at hm
  obtain ⟨⟨⟨h1, h2⟩, h3⟩, h4⟩ := hm
  refine a_begin Lk h1 ?_
  intro a w hf hs
  have := pw_sound (P := P) (Q := Q) (S := St w0 S0 Lk) h2 plan _ a w h3 (h a w hf hs)
  rwa [h4] at this

theorem p_begin0 [T : PO Q] {id : Nat} {l : List Oper} (plan : List PI) (hm : (P.follows .mixedOrders && Region.noSelect l.toArray && planOk l.toArray (Array.replicate l.toArray.size false) plan && (planLen plan == l.toArray.size)) = true)
    (h : RP P w0 S0 n l.toArray Q L plan F L) : Reach w0 S0 n F L ((Code.region id l.toArray true).wp P Q) := p_begin plan L hm h

theorem p_nil (h : Reach w0 S0 n F L (Q .normal)) : RP P w0 S0 n ops Q Lk [] F L := h

theorem p_q (ho : ops[i]? = some o) (hg : o.guard = none) (hd : o.dst = some d) (hn : Nat.blt d n = true) (hL : ∀ w, St w0 S0 L w → St w0 S0 Lk w) (hq : R1 P w0 S0 n F Lk o v)
    (h : RP P w0 S0 n ops Q Lk rest ((d, v) :: F) L) : RP P w0 S0 n ops Q Lk (.mk i true :: rest) F L := by
  intro a w hf hst
  exact ⟨o, v, ho, .inl ⟨by simp [Region.wanted, hg], fun w' hw' => hq a hf w' hw'⟩, hL _ hst, h _ _ (by rw [hd]; exact hf.put hn) hst⟩

theorem p_want {t : Nat} {want : Bool} (ho : ops[i]? = some o) (hg : gslot ops o = some (t, want)) (ht : fget F t = some (.bool want)) (hd : o.dst = some d) (hn : Nat.blt d n = true) (hL : ∀ w, St w0 S0 L w → St w0 S0 Lk w) (hq : R1 P w0 S0 n F Lk o v)
    (h : RP P w0 S0 n ops Q Lk rest ((d, v) :: F) L) : RP P w0 S0 n ops Q Lk (.mk i true :: rest) F L := by
  intro a w hf hst
  exact ⟨o, v, ho, .inl ⟨by rw [wanted_of hf hg ht]; simp, fun w' hw' => hq a hf w' hw'⟩, hL _ hst, h _ _ (by rw [hd]; exact hf.put hn) hst⟩

theorem p_skip {t : Nat} {want : Bool} {u0 : Value} (ho : ops[i]? = some o) (hg : gslot ops o = some (t, want)) (ht : fget F t = some u0) (hb : skips u0 want = true) (hd : o.dst = some d) (hn : Nat.blt d n = true) (hL : ∀ w, St w0 S0 L w → St w0 S0 Lk w)
    (h : RP P w0 S0 n ops Q Lk rest ((d, undef) :: F) L) : RP P w0 S0 n ops Q Lk (.mk i true :: rest) F L := by
  intro a w hf hst
  exact ⟨o, undef, ho, .inr ⟨unwanted_of hf hg ht hb, rfl⟩, hL _ hst, h _ _ (by rw [hd]; exact hf.put hn) hst⟩

/-- one that isn't wanted, of those that come up alone -/
theorem p_skipl {t : Nat} {want : Bool} {u0 : Value} (ho : ops[i]? = some o) (hg : gslot ops o = some (t, want)) (ht : fget F t = some u0) (hb : skips u0 want = true) (hd : o.dst = some d) (hn : Nat.blt d n = true) (hL : ∀ w, St w0 S0 L w → St w0 S0 Lk w)
    (h : RP P w0 S0 n ops Q Lk rest ((d, undef) :: F) L) : RP P w0 S0 n ops Q Lk (.mk i false :: rest) F L := by
  intro a w hf hst
  show wpOp P ops Q i _ a w
  unfold wpOp
  rw [ho]
  simp only [unwanted_of hf hg ht hb, Bool.false_eq_true, if_false]
  exact ⟨hL _ hst, h _ _ (by rw [hd]; exact hf.put hn) hst⟩

theorem p_case {t : Nat} {want c : Bool} {p : Prop} [Decidable p] (ho : ops[i]? = some o) (hg : gslot ops o = some (t, want)) (ht : fget F t = some (.bool (decide p)))
    (h1 : p → RP P w0 S0 n ops Q Lk (.mk i c :: rest) ((t, .bool true) :: F) L) (h2 : ¬ p → RP P w0 S0 n ops Q Lk (.mk i c :: rest) ((t, .bool false) :: F) L) : RP P w0 S0 n ops Q Lk (.mk i c :: rest) F L := by
  intro a w hf hs
  by_cases hp : p
  · exact h1 hp a w (hf.known ht (decide_eq_true hp)) hs
  · exact h2 hp a w (hf.known ht (decide_eq_false hp)) hs

theorem p_rd {j : Nat} (h1 : RP P w0 S0 n ops Q Lk (.mk i false :: .mk j false :: rest) F L) (h2 : RP P w0 S0 n ops Q Lk (.mk j false :: .mk i false :: rest) F L) : RP P w0 S0 n ops Q Lk (.rd i j :: rest) F L :=
  fun a w hf hst => ⟨h1 a w hf hst, h2 a w hf hst⟩

/-- one that comes up alone -/
theorem p_l (ho : ops[i]? = some o) (hg : o.guard = none)
    (h : ∀ R : Act → World → Prop, (∀ F' L', (∀ w, St w0 S0 L' w → St w0 S0 Lk w) → RP P w0 S0 n ops Q Lk rest F' L' → Reach w0 S0 n F' L' R) → Reach w0 S0 n F L (fun a w => o.wp P a w R Q)) : RP P w0 S0 n ops Q Lk (.mk i false :: rest) F L := by
  intro a w hf hs
  show wpOp P ops Q i _ a w
  unfold wpOp
  rw [ho]
  simp only [Region.wanted, hg, if_true]
  refine .inl (h (fun a' w' => St w0 S0 Lk w' ∧ PW P ops Q (St w0 S0 Lk) rest a' w') ?_ a w hf hs)
  intro F' L' hp hra a' w' hf' hs'
  exact ⟨hp _ hs', hra a' w' hf' hs'⟩

theorem p_lw {t : Nat} {want : Bool} (ho : ops[i]? = some o) (hg : gslot ops o = some (t, want)) (ht : fget F t = some (.bool want))
    (h : ∀ R : Act → World → Prop, (∀ F' L', (∀ w, St w0 S0 L' w → St w0 S0 Lk w) → RP P w0 S0 n ops Q Lk rest F' L' → Reach w0 S0 n F' L' R) → Reach w0 S0 n F L (fun a w => o.wp P a w R Q)) : RP P w0 S0 n ops Q Lk (.mk i false :: rest) F L := by
  intro a w hf hs
  show wpOp P ops Q i _ a w
  unfold wpOp
  rw [ho]
  simp only [wanted_of hf hg ht, beq_self_eq_true, if_true]
  refine .inl (h (fun a' w' => St w0 S0 Lk w' ∧ PW P ops Q (St w0 S0 Lk) rest a' w') ?_ a w hf hs)
  intro F' L' hp hra a' w' hf' hs'
  exact ⟨hp _ hs', hra a' w' hf' hs'⟩

/-- what only reads, at its own turn -/
theorem p_r (ho : ops[i]? = some o) (hg : o.guard = none) (hd : o.dst = some d) (hn : Nat.blt d n = true) (hL : ∀ w, St w0 S0 L w → St w0 S0 Lk w) (hq : R1 P w0 S0 n F L o v)
    (h : RP P w0 S0 n ops Q Lk rest ((d, v) :: F) L) : RP P w0 S0 n ops Q Lk (.mk i false :: rest) F L :=
  p_l ho hg fun R hR => l_q hd hn hq.q (hR _ _ hL h)

theorem RP.imp {M : List HP} (hM : ∀ w, St w0 S0 L w → St w0 S0 M w) {plan : List PI} (h : RP P w0 S0 n ops Q Lk plan F M) : RP P w0 S0 n ops Q Lk plan F L :=
  fun a w hf hs => h a w hf (hM w hs)

/-! the operations, one by one -/
section
variable {ty : TypeId} {ps : String} {af : Array Edge}
/-- a call that hands back one value and leaves nothing -/
theorem p_call {f : FuncId} {xs : Array Operand} {ts : Array TypeId} {vs : List Value} {u : Value} {gd : Option (Nat × Bool)} [T : FnTy P f] (ho : ops[i]? = some ⟨some d, .call { callee := .value (.func f), args := xs, argTypes := ts }, ty, ps, af, none⟩) (hn : Nat.blt d n = true) (hvs : xs.toList.map (ev F) = vs.map some)
    (hc : ∀ w, St w0 S0 L w → Calls P f vs.toArray w (Post w No (Just u))) (hL : ∀ w, St w0 S0 L w → St w0 S0 Lk w) (h : RP P w0 S0 n ops Q Lk rest ((d, u) :: F) L) : RP P w0 S0 n ops Q Lk (.mk i false :: rest) F L :=
  p_l ho rfl fun R hR => l_q rfl hn (q_call rfl hvs hc) (hR _ _ hL h)
theorem p_callw {f : FuncId} {xs : Array Operand} {ts : Array TypeId} {vs : List Value} {u : Value} {gd : Nat × Bool} {t : Nat} {want : Bool} [T : FnTy P f] (ho : ops[i]? = some ⟨some d, .call { callee := .value (.func f), args := xs, argTypes := ts }, ty, ps, af, some gd⟩) (hg : gslot ops ⟨some d, .call { callee := .value (.func f), args := xs, argTypes := ts }, ty, ps, af, some gd⟩ = some (t, want)) (ht : fget F t = some (.bool want)) (hn : Nat.blt d n = true) (hvs : xs.toList.map (ev F) = vs.map some)
    (hc : ∀ w, St w0 S0 L w → Calls P f vs.toArray w (Post w No (Just u))) (hL : ∀ w, St w0 S0 L w → St w0 S0 Lk w) (h : RP P w0 S0 n ops Q Lk rest ((d, u) :: F) L) : RP P w0 S0 n ops Q Lk (.mk i false :: rest) F L :=
  p_lw ho hg ht fun R hR => l_q rfl hn (q_call rfl hvs hc) (hR _ _ hL h)
theorem p_call' {f : FuncId} {xs : Array Operand} {ts : Array TypeId} {vs : List Value} {G : Value → List HP → Prop} [T : FnTy P f] (ho : ops[i]? = some ⟨some d, .call { callee := .value (.func f), args := xs, argTypes := ts }, ty, ps, af, none⟩) (hn : Nat.blt d n = true) (hvs : xs.toList.map (ev F) = vs.map some)
    (hc : ∀ w, St w0 S0 L w → Calls P f vs.toArray w (Post w No G)) (h : ∀ v L', G v L' → (∀ w, St w0 S0 (L' ++ L) w → St w0 S0 Lk w) ∧ RP P w0 S0 n ops Q Lk rest ((d, v) :: F) (L' ++ L)) : RP P w0 S0 n ops Q Lk (.mk i false :: rest) F L :=
  p_l ho rfl fun R hR => l_call0 rfl rfl hn hvs hc fun v L' g => hR _ _ (h v L' g).1 (h v L' g).2
theorem p_mkrow {parts : Array (Nat × Operand)} {t e : TypeId} {c sz : Nat} (cs : List Value) (ho : ops[i]? = some ⟨some d, .buildSlice t c parts, ty, ps, af, none⟩) (hn : Nat.blt d n = true)
    (hb : ∀ a, Fr F n a → ∀ w, (Instr.buildSlice t c (parts.map fun (i, x) => (i, a.eval x))).run P w = .ok (.slice (some ⟨w.heap.size, 0, none⟩) c c) (w.alloc (.cells cs.toArray e (0, 0)))) (hl : cs.length = c * sz) (hk : c ≤ maxLen)
    (hL : ∀ w (A : HP), St w0 S0 (A :: L) w → St w0 S0 Lk w) (h : ∀ v, Shp v c → RP P w0 S0 n ops Q Lk rest ((d, v) :: F) (rowHP v e sz c cs :: L)) : RP P w0 S0 n ops Q Lk (.mk i false :: rest) F L :=
  p_l ho rfl fun R hR => l_mkrow rfl rfl hn hb hl hk fun v hv => hR _ _ (fun w => hL w _) (h v hv)
theorem p_box {x : Operand} {t : TypeId} {u : Value} (ho : ops[i]? = some ⟨some d, .box t x, ty, ps, af, none⟩) (hn : Nat.blt d n = true) (hx : ev F x = some u) (hL : ∀ w (A : HP), St w0 S0 (A :: L) w → St w0 S0 Lk w)
    (h : ∀ b, RP P w0 S0 n ops Q Lk rest ((d, .pointer (some ⟨b, 0, none⟩)) :: F) (boxHP b t u.cells.toList :: L)) : RP P w0 S0 n ops Q Lk (.mk i false :: rest) F L :=
  p_l ho rfl fun R hR => l_box rfl rfl hn hx fun b => hR _ _ (fun w => hL w _) (h b)
theorem p_alloc {t : TypeId} {z : Value} [T : ZrTy P t z] (ho : ops[i]? = some ⟨some d, .alloc t, ty, ps, af, none⟩) (hn : Nat.blt d n = true) (hL : ∀ w (A : HP), St w0 S0 (A :: L) w → St w0 S0 Lk w)
    (h : ∀ b, RP P w0 S0 n ops Q Lk rest ((d, .pointer (some ⟨b, 0, none⟩)) :: F) (boxHP b t z.cells.toList :: L)) : RP P w0 S0 n ops Q Lk (.mk i false :: rest) F L :=
  p_l ho rfl fun R hR => l_alloc rfl rfl hn fun b => hR _ _ (fun w => hL w _) (h b)
theorem p_st_box {x y : Operand} {t tb : TypeId} {b off j : Nat} {u : Value} {cs : List Value} [T : ScTy P t] (ho : ops[i]? = some ⟨none, .store t x y, ty, ps, af, none⟩) (hx : ev F x = some (.pointer (some ⟨b, off, none⟩))) (hA : L[j]? = some (boxHP b tb cs)) (hy : ev F y = some u) (hu : u.oneCell' = true) (hlt : off < cs.length) (hL : ∀ w, St w0 S0 (L.set j (boxHP b tb (cs.set off u))) w → St w0 S0 Lk w)
    (h : RP P w0 S0 n ops Q Lk rest F (L.set j (boxHP b tb (cs.set off u)))) : RP P w0 S0 n ops Q Lk (.mk i false :: rest) F L :=
  p_l ho rfl fun R hR => l_st_box rfl rfl hx hy hu hA hlt (hR _ _ hL h)
theorem p_stk_box {x y : Operand} {t tb : TypeId} {b off j k : Nat} {u : Value} {us cs : List Value} [T : AgTy P t k] (ho : ops[i]? = some ⟨none, .store t x y, ty, ps, af, none⟩) (hx : ev F x = some (.pointer (some ⟨b, off, none⟩))) (hA : L[j]? = some (boxHP b tb cs)) (hy : ev F y = some u) (hu : u.cells.toList = us) (hl : us.length = k) (h1 : ∀ u ∈ us, u.oneCell' = true) (hlt : off + k ≤ cs.length) (hL : ∀ w, St w0 S0 (L.set j (boxHP b tb (putL cs off us))) w → St w0 S0 Lk w)
    (h : RP P w0 S0 n ops Q Lk rest F (L.set j (boxHP b tb (putL cs off us)))) : RP P w0 S0 n ops Q Lk (.mk i false :: rest) F L :=
  p_l ho rfl fun R hR => l_stk_box rfl rfl hx hy hu hl h1 hA hlt T.size (hR _ _ hL h)
theorem p_st_row {x y : Operand} {t e : TypeId} {k sz m j : Nat} {s u : Value} {ys : List Value} [T : ScTy P t] (ho : ops[i]? = some ⟨none, .store t x y, ty, ps, af, none⟩) (hx : ev F x = some (pv s k)) (hA : L[j]? = some (rowHP s e sz m ys)) (hy : ev F y = some u) (hu : u.oneCell' = true) (hlt : k < m * sz) (hL : ∀ w, St w0 S0 (L.set j (rowHP s e sz m (ys.set k u))) w → St w0 S0 Lk w)
    (h : RP P w0 S0 n ops Q Lk rest F (L.set j (rowHP s e sz m (ys.set k u)))) : RP P w0 S0 n ops Q Lk (.mk i false :: rest) F L :=
  p_l ho rfl fun R hR => l_st_row rfl rfl hx hy hu hA hlt (hR _ _ hL h)
theorem p_make {x y : Operand} {t e : TypeId} {z : Value} {sz bytes : Nat} {c : Int} [T : SlTy P t e z sz bytes] (ho : ops[i]? = some ⟨some d, .makeSlice t x y, ty, ps, af, none⟩) (hn : Nat.blt d n = true) (hx : ev F x = some (.int .i64 c)) (hy : ev F y = some (.int .i64 c)) (h0 : 0 ≤ c) (hl : c.toNat * bytes ≤ 281474976710656) (hL : ∀ w (A : HP), St w0 S0 (A :: L) w → St w0 S0 Lk w)
    (h : ∀ v, Shp v c.toNat → RP P w0 S0 n ops Q Lk rest ((d, v) :: F) (rowHP v e sz c.toNat (madeCells z.cells (c.toNat * sz)).toList :: L)) : RP P w0 S0 n ops Q Lk (.mk i false :: rest) F L :=
  p_l ho rfl fun R hR => l_make rfl rfl hn hx hy h0 hl fun v hv => hR _ _ (fun w => hL w _) (h v hv)
theorem know_rowP {e : TypeId} {sz m : Nat} {ys : List Value} {plan : List PI} (hA : rowHP v e sz m ys ∈ L) (h : Shp v m → ys.length = m * sz → RP P w0 S0 n ops Q Lk plan F L) : RP P w0 S0 n ops Q Lk plan F L := by
  intro a w hf hs
  obtain ⟨S, hsat⟩ := hs.mem hA
  exact h (rowHP_shp hsat) hsat.1 a w hf hs
theorem p_append_row {x y : Operand} {t e e' : TypeId} {z s u : Value} {sz sz' bytes m c j : Nat} {ys news : List Value} [T : SlTy P t e z sz bytes] (ho : ops[i]? = some ⟨some d, .call { callee := .builtin .append, args := #[x, y], argTypes := #[t, t] }, ty, ps, af, none⟩) (hn : Nat.blt d n = true) (hx : ev F x = some s) (hA : L[j]? = some (rowHP s e sz m ys)) (hy : ev F y = some u) (hM : rowHP u e' sz' c news ∈ L) (hl : news.length = c * sz) (h1 : ∀ u ∈ news, u.oneCell' = true) (hb : (m + c) * bytes ≤ 140737488355328) (hL : ∀ w v, St w0 S0 (L.set j (rowHP v e sz (m + c) (ys ++ news))) w → St w0 S0 Lk w)
    (h : ∀ v, Shp v (m + c) → RP P w0 S0 n ops Q Lk rest ((d, v) :: F) (L.set j (rowHP v e sz (m + c) (ys ++ news)))) : RP P w0 S0 n ops Q Lk (.mk i false :: rest) F L :=
  know_rowP hM fun hu _ => p_l ho rfl fun R hR => l_append_of (fun _ hs => (hs.mem hM).elim fun _ h => rowHP_rd h) rfl rfl hn hx hy hA hu hl h1 hb (fun v hv => hR _ _ (fun w => hL w v) (h v hv))
theorem p_append_nil {x y : Operand} {t e e' : TypeId} {z u : Value} {sz sz' bytes c : Nat} {news : List Value} [T : SlTy P t e z sz bytes] (ho : ops[i]? = some ⟨some d, .call { callee := .builtin .append, args := #[x, y], argTypes := #[t, t] }, ty, ps, af, none⟩) (hn : Nat.blt d n = true) (hx : ev F x = some (.slice none 0 0)) (hy : ev F y = some u) (hM : rowHP u e' sz' c news ∈ L) (hl : news.length = c * sz) (h1 : ∀ u ∈ news, u.oneCell' = true) (hb : c * bytes ≤ 140737488355328) (hL : ∀ w (A : HP), St w0 S0 (A :: L) w → St w0 S0 Lk w)
    (h : ∀ v, Shp v c → RP P w0 S0 n ops Q Lk rest ((d, v) :: F) (rowHP v e sz c news :: L)) : RP P w0 S0 n ops Q Lk (.mk i false :: rest) F L :=
  know_rowP hM fun hu _ => p_l ho rfl fun R hR => l_append_nil (fun _ hs => (hs.mem hM).elim fun _ h => rowHP_rd h) rfl rfl hn hx hy hu hl h1 hb (fun v hv => hR _ _ (fun w => hL w _) (h v hv))
theorem p_append_ro {x y : Operand} {t e : TypeId} {z s u : Value} {sz bytes m c j : Nat} {ys news : List Value} [T : SlTy P t e z sz bytes] (ho : ops[i]? = some ⟨some d, .call { callee := .builtin .append, args := #[x, y], argTypes := #[t, t] }, ty, ps, af, none⟩) (hn : Nat.blt d n = true) (hx : ev F x = some s) (hA : L[j]? = some (rowHP s e sz m ys)) (hy : ev F y = some u) (hr : RO w0 S0 u news) (hu : Shp u c) (hl : news.length = c * sz) (h1 : ∀ u ∈ news, u.oneCell' = true) (hb : (m + c) * bytes ≤ 140737488355328) (hL : ∀ w v, St w0 S0 (L.set j (rowHP v e sz (m + c) (ys ++ news))) w → St w0 S0 Lk w)
    (h : ∀ v, Shp v (m + c) → RP P w0 S0 n ops Q Lk rest ((d, v) :: F) (L.set j (rowHP v e sz (m + c) (ys ++ news)))) : RP P w0 S0 n ops Q Lk (.mk i false :: rest) F L :=
  p_l ho rfl fun R hR => l_append_of (fun _ hs => hs.rd hr) rfl rfl hn hx hy hA hu hl h1 hb (fun v hv => hR _ _ (fun w => hL w v) (h v hv))
end
end
end Go.Sl
