/- Of ColourNames: part 5: what the walks rest on, contracts of functions and plain lemmas; no condition but those that each states. -/
import Derived.Test.YtpajjnkmaebhcabGreatCn4
import Derived.Shelf.SlSortCmp.NoneTotal
import Derived.Shelf.SlGeneric
import Derived.Scope
import Derived.OrdersIn
import Derived.Laws.IdiomCopy
import Derived.Shelf.Bits.Mul64
set_option linter.unusedVariables false
set_option linter.unusedSimpArgs false
section
set_option linter.unusedVariables false
namespace Go.Proofs
open Go.Shelf
def Tryz.sortDarts_ren : Go.Shelf.Ren := ⟨fun | 6 => 119 | 15 => 81 | 14 => 147 | 28 => 113 | 29 => 114 | 20 => 156 | 21 => 157 | 22 => 158 | 23 => 159 | 24 => 160 | 25 => 161 | 26 => 162 | 27 => 163 | 46 => 166 | 47 => 142 | 48 => 143 | 49 => 167 | 50 => 168 | 57 => 169 | n => n, fun | 22 => 101 | 24 => 100 | 25 => 166 | 3 => 3 | 39 => 111 | 0 => 0 | 53 => 156 | 55 => 158 | 4 => 4 | 46 => 149 | 45 => 148 | 50 => 78 | 5 => 5 | 9 => 9 | 66 => 187 | 70 => 191 | 76 => 197 | 77 => 93 | n => n, fun | n => n⟩
theorem Tryz.sortDarts : Go.Proofs.SlLaysF0.n6 Tryz.prog Tryz.sortDarts_ren := {
  mixed := by kernel_rfl
  f6 := ⟨Tryz.f119.name, by decide, Tryz.func119.trans (congrArg some (by kernel_rfl))⟩
  f14 := ⟨Tryz.f147.name, by decide, Tryz.func147.trans (congrArg some (by kernel_rfl))⟩
  f15 := Tryz.func81.trans (congrArg some (by kernel_rfl))
  f20 := ⟨Tryz.f156.name, by decide, Tryz.func156.trans (congrArg some (by kernel_rfl))⟩
  f21 := ⟨Tryz.f157.name, by decide, Tryz.func157.trans (congrArg some (by kernel_rfl))⟩
  f22 := ⟨Tryz.f158.name, by decide, Tryz.func158.trans (congrArg some (by kernel_rfl))⟩
  f23 := ⟨Tryz.f159.name, by decide, Tryz.func159.trans (congrArg some (by kernel_rfl))⟩
  f24 := ⟨Tryz.f160.name, by decide, Tryz.func160.trans (congrArg some (by kernel_rfl))⟩
  f25 := ⟨Tryz.f161.name, by decide, Tryz.func161.trans (congrArg some (by kernel_rfl))⟩
  f26 := ⟨Tryz.f162.name, by decide, Tryz.func162.trans (congrArg some (by kernel_rfl))⟩
  f27 := ⟨Tryz.f163.name, by decide, Tryz.func163.trans (congrArg some (by kernel_rfl))⟩
  f28 := Tryz.func113.trans (congrArg some (by kernel_rfl))
  f29 := Tryz.func114.trans (congrArg some (by kernel_rfl))
  f46 := ⟨Tryz.f166.name, by decide, Tryz.func166.trans (congrArg some (by kernel_rfl))⟩
  f47 := Tryz.func142.trans (congrArg some (by kernel_rfl))
  f48 := Tryz.func143.trans (congrArg some (by kernel_rfl))
  f49 := ⟨Tryz.f167.name, by decide, Tryz.func167.trans (congrArg some (by kernel_rfl))⟩
  f50 := ⟨Tryz.f168.name, by decide, Tryz.func168.trans (congrArg some (by kernel_rfl))⟩
  f57 := ⟨Tryz.f169.name, by decide, Tryz.func169.trans (congrArg some (by kernel_rfl))⟩
  t0 := Tryz.underlying0
  a0 := Tryz.isAgg0
  z0 := Tryz.sizeOf0
  v0 := Tryz.zeroValue0
  t3 := Tryz.underlying3
  a3 := Tryz.isAgg3
  z3 := Tryz.sizeOf3
  v3 := Tryz.zeroValue3
  t4 := Tryz.underlying4
  a4 := Tryz.isAgg4
  z4 := Tryz.sizeOf4
  v4 := Tryz.zeroValue4
  t5 := Tryz.underlying5
  a5 := Tryz.isAgg5
  z5 := Tryz.sizeOf5
  v5 := Tryz.zeroValue5
  t9 := Tryz.underlying9
  a9 := Tryz.isAgg9
  z9 := Tryz.sizeOf9
  v9 := Tryz.zeroValue9
  t22 := Tryz.underlying101
  a22 := Tryz.isAgg101
  z22 := Tryz.sizeOf101
  v22 := Tryz.zeroValue101
  t25 := Tryz.underlying166
  a25 := Tryz.isAgg166
  z25 := Tryz.sizeOf166
  v25 := Tryz.zeroValue166
  t39 := Tryz.underlying111
  a39 := Tryz.isAgg111
  z39 := Tryz.sizeOf111
  v39 := Tryz.zeroValue111
  t45 := Tryz.underlying148
  a45 := Tryz.isAgg148
  z45 := Tryz.sizeOf148
  v45 := Tryz.zeroValue148
  t46 := Tryz.underlying149
  a46 := Tryz.isAgg149
  z46 := Tryz.sizeOf149
  v46 := Tryz.zeroValue149
  t50 := Tryz.underlying78
  a50 := Tryz.isAgg78
  z50 := Tryz.sizeOf78
  v50 := Tryz.zeroValue78
  t53 := Tryz.underlying156
  a53 := Tryz.isAgg156
  z53 := Tryz.sizeOf156
  v53 := Tryz.zeroValue156
  t55 := Tryz.underlying158
  a55 := Tryz.isAgg158
  z55 := Tryz.sizeOf158
  v55 := Tryz.zeroValue158
  t66 := Tryz.underlying187
  a66 := Tryz.isAgg187
  z66 := Tryz.sizeOf187
  v66 := Tryz.zeroValue187
  t70 := Tryz.underlying191
  a70 := Tryz.isAgg191
  z70 := Tryz.sizeOf191
  v70 := Tryz.zeroValue191
  t76 := Tryz.underlying197
  a76 := Tryz.isAgg197
  z76 := Tryz.sizeOf197
  v76 := Tryz.zeroValue197
  t77 := Tryz.underlying93
  a77 := Tryz.isAgg93
  z77 := Tryz.sizeOf93
  v77 := Tryz.zeroValue93 }
end Go.Proofs
namespace Go.Sl
open Go Go.RowKit Go.Sort Go.Proofs Fil
def encD (d : Nat × Nat) : List Value := [.int .i64 (d.1 : Int), .int .i64 (d.2 : Int)]
def dsV (l : List (Nat × Nat)) : List Value := l.flatMap encD
theorem dsV_length : ∀ (l : List (Nat × Nat)), (dsV l).length = l.length * 2
  | [] => rfl
  | a :: l => by
    have := dsV_length l
    simp only [dsV, List.flatMap_cons, List.length_append, List.length_cons, encD, List.length_nil] at this ⊢
    omega
theorem dsV_get : ∀ {l : List (Nat × Nat)} {i : Nat} {d : Nat × Nat}, l[i]? = some d → (dsV l)[i * 2]? = some (.int .i64 (d.1 : Int)) ∧ (dsV l)[i * 2 + 1]? = some (.int .i64 (d.2 : Int))
  | a :: l, 0, d, h => by
    obtain rfl : a = d := by simpa using h
    exact ⟨rfl, rfl⟩
  | a :: l, i + 1, d, h => by
    have := dsV_get (l := l) (i := i) (by simpa using h)
    have e : dsV (a :: l) = .int .i64 (a.1 : Int) :: .int .i64 (a.2 : Int) :: dsV l := rfl
    rw [e, show (i + 1) * 2 = i * 2 + 1 + 1 by omega, List.getElem?_cons_succ, List.getElem?_cons_succ, show i * 2 + 1 + 1 + 1 = (i * 2 + 1) + 1 + 1 by omega, List.getElem?_cons_succ, List.getElem?_cons_succ]
    exact this
theorem dsV_one (l : List (Nat × Nat)) : ∀ u ∈ dsV l, u.oneCell' = true := fun u hu => by
  obtain ⟨d, _, hu⟩ := List.mem_flatMap.1 hu
  simp only [encD, List.mem_cons, List.not_mem_nil, or_false] at hu
  rcases hu with rfl | rfl <;> rfl
theorem flat_dsV (l : List (Nat × Nat)) : (flatK encD 2 l.toArray).toList = dsV l := by
  apply List.ext_getElem?
  intro j
  by_cases hj : j < l.length * 2
  · obtain ⟨d, hd⟩ : ∃ d, l[j / 2]? = some d := ⟨_, List.getElem?_eq_getElem (by omega)⟩
    obtain ⟨g1, g2⟩ := dsV_get hd
    have hlt : j / 2 < l.length := by omega
    have hdd : l[j / 2] = d := (List.getElem?_eq_some_iff.1 hd).2
    have e1 : (flatK encD 2 l.toArray).toList[j]? = some ((encD d)[j % 2]!) := by
      rw [Array.getElem?_toList]
      simp [flatK, hj, hlt, hdd]
    rw [e1]
    have : j % 2 = 0 ∨ j % 2 = 1 := by omega
    rcases this with h | h
    · rw [h, show j = j / 2 * 2 by omega, g1]; rfl
    · rw [h]
      have e2 : j = j / 2 * 2 + 1 := by omega
      rw [e2, g2]; rfl
  · rw [List.getElem?_eq_none (by simp; omega), List.getElem?_eq_none (by rw [dsV_length]; omega)]
theorem putCells_id (cur : Array Value) (off : Nat) (ts : List Value) (h : off + ts.length ≤ cur.size) : ((putCells id off ts.toArray cur).toList.drop off).take ts.length = ts := by
  apply List.ext_getElem?
  intro j
  by_cases hj : j < ts.length
  · rw [List.getElem?_take_of_lt hj, List.getElem?_drop, Array.getElem?_toList]
    simp [putCells, hj, show off + j < cur.size by omega]
  · rw [List.getElem?_take_eq_none (by omega), List.getElem?_eq_none (by omega)]
theorem mod_grow {w w' : World} {S' : FS} (h : Mod w No w' S') : ∃ q os', w' = grow (w.drewN q) os' := by
  refine ⟨w'.drawn - w.drawn, w'.heap.extract w.heap.size w'.heap.size, ?_⟩
  obtain ⟨heap, tape, drawn, os, output⟩ := w
  obtain ⟨heap', tape', drawn', os', output'⟩ := w'
  obtain ⟨h1, h2, h3, h4, h5, h6, _⟩ := h
  dsimp only at *
  subst h1 h2 h3
  simp only [grow, World.drewN, World.mk.injEq, true_and, and_true]
  refine ⟨?_, by omega⟩
  apply Array.ext_getElem?
  intro k
  by_cases hk : k < heap.size
  · rw [Array.getElem?_append_left hk]
    exact h6 k hk (fun h => h)
  · rw [Array.getElem?_append_right (by omega)]
    by_cases hk2 : k < heap'.size
    · rw [Array.getElem?_extract]
      simp
      rw [show heap.size + (k - heap.size) = k by omega]
      rw [if_pos (by omega)]
    · rw [Array.getElem?_eq_none (by omega), Array.getElem?_eq_none (by simp; omega)]
end Go.Sl
namespace Go.Proofs.YtpajjnkmaebhcabGreat
open Go.RowKit Go.Sl Fil Go.Sort Go.Shelf
theorem cmpK_lt {a b : Int} : cmpK a b < 0 ↔ a < b := by
  unfold cmpK
  (repeat' split) <;> omega
theorem cmpK_eq {a b : Int} : cmpK a b = 0 ↔ a = b := by
  unfold cmpK
  (repeat' split) <;> omega
theorem cmpD_lt {a b : Nat × Nat} : cmpD a b < 0 ↔ a.1 < b.1 ∨ a.1 = b.1 ∧ a.2 < b.2 := by
  unfold cmpD
  split
  · rename_i h
    have := cmpK_eq.1 h
    rw [cmpK_lt]; omega
  · rename_i h
    have : ¬ (a.1 : Int) = b.1 := fun e => h (cmpK_eq.2 e)
    rw [cmpK_lt]; omega
theorem leD_eq (a b : Nat × Nat) : (!(ltOf cmpD) b a) = leD a b := by
  have h := @cmpD_lt b a
  rw [ltOf, leD, ← decide_not]
  refine decide_eq_decide.2 ?_
  rw [h]; omega
theorem swo_D : SWO (ltOf cmpD) where
  irrefl x := decide_eq_false fun h => by have := cmpD_lt.1 h; omega
  trans x y z h1 h2 := by
    have a := cmpD_lt.1 (of_decide_eq_true h1)
    have b := cmpD_lt.1 (of_decide_eq_true h2)
    exact decide_eq_true (cmpD_lt.2 (by omega))
  ntrans x y z h1 h2 := by
    have a : ¬ _ := fun h => of_decide_eq_false h1 (cmpD_lt.2 h)
    have b : ¬ _ := fun h => of_decide_eq_false h2 (cmpD_lt.2 h)
    exact decide_eq_false fun h => by have := cmpD_lt.1 h; omega
theorem dartSort_row {w : World} {v : Value} {e : TypeId} {l : List (Nat × Nat)} {S : FS} (h : (rowHP v e 2 l.length (dsV l)).sat S w) (hlen : l.length < 4611686018427387904) :
    Calls Tryz.prog 119 #[v, .func (.func 120) #[] #[]] w (Post w S fun r L' => r = .tuple #[] ∧ L' = [rowHP v e 2 l.length (dsV (l.mergeSort leD))]) := by
  have hnone : l.length = 0 → ∀ p, v = .slice p 0 0 → Calls Tryz.prog 119 #[v, .func (.func 120) #[] #[]] w (Post w S fun r L' => r = .tuple #[] ∧ L' = [rowHP v e 2 l.length (dsV (l.mergeSort leD))]) := fun h0 p hp => by
    have hl : l = [] := List.eq_nil_of_length_eq_zero h0
    subst hl
    subst hp
    have c := AnyF.slices_SortFunc_none Tryz.sortDarts p 0 (.func (.func 120) #[] #[]) w
    change Calls Tryz.prog 119 _ _ _ at c
    refine Calls.mono c ?_
    rintro e' w' ⟨rfl, hw⟩
    subst hw
    refine ⟨_, _, ⟨rfl, rfl⟩, rfl, S, Mod.refl _ _, S, fun _ => False, fun _ h => h, fun _ h => h.elim, fun _ _ h => h, ?_, trivial⟩
    simpa [dsV] using h
  rcases h.2 with ⟨h1, h0⟩ | ⟨g, off, cap, cur, rfl, h2, h3, h4, h5, h6, h7⟩ | ⟨⟨a0, h1⟩, h0⟩
  · exact hnone h0 none h1
  · have hg := (Array.getElem?_eq_some_iff.1 h3).1
    have hsz : (flatK encD 2 l.toArray).size = l.length * 2 := by simp
    have hH : HoldsK encD 2 w g off l.toArray := by
      intro j hj
      rw [hsz] at hj
      have hj2 : j < (flatK encD 2 l.toArray).size := by rw [hsz]; exact hj
      refine ⟨?_, by simp [World.frozen?, h3]⟩
      have h8 : ((cur.toList.drop off).take (l.length * 2))[j]? = (dsV l)[j]? := by rw [h7]
      rw [List.getElem?_take_of_lt (by omega), List.getElem?_drop] at h8
      simp only [World.cell?, h3]
      simp only [Option.isSome_none, Bool.false_eq_true, if_false]
      rw [← Array.getElem?_toList, h8, ← flat_dsV, Array.getElem?_toList, Array.getElem?_eq_getElem hj2, getElem!_pos _ j hj2]
      rfl
    have c := AnyQ.slices_SortFunc_total Tryz.sortDarts 2 (fun w => Tryz.isAgg100 w) (fun w => Tryz.sizeOf100 w) encD (fun _ => rfl) (fun x u hu => by
      simp only [encD, List.mem_cons, List.not_mem_nil, or_false] at hu
      rcases hu with rfl | rfl <;> rfl) cmpD swo_D 120 #[] g off cap l.toArray w (fun args w => FnTy.c (P := Tryz.prog) (f := 120) args w) (fun m os dk _ x y => (dartOrder_ok x y _).mono fun e' w' ⟨u, L', ⟨hu, hL⟩, he, S', hm, _⟩ => by
        subst hu
        exact ⟨he, mod_grow hm⟩) hH hg (by simpa using hlen) (fun x y hx hy => by
        have a : ¬ _ := fun h => of_decide_eq_false hx (cmpD_lt.2 h)
        have b : ¬ _ := fun h => of_decide_eq_false hy (cmpD_lt.2 h)
        exact Prod.ext (by omega) (by omega))
    change Calls Tryz.prog 119 _ _ _ at c
    have hms : (l.toArray.toList.mergeSort fun x y => !(ltOf cmpD) y x) = l.mergeSort leD := by
      congr 1
      funext x y
      exact leD_eq x y
    rw [hms] at c
    refine Calls.mono c ?_
    rintro e' w' ⟨rfl, n, os, rfl⟩
    have hlen' : (l.mergeSort leD).length = l.length := List.length_mergeSort _
    have hfl : flatK encD 2 (l.mergeSort leD).toArray = (dsV (l.mergeSort leD)).toArray := by
      rw [← flat_dsV, Array.toArray_toList]
    refine ⟨_, _, ⟨rfl, rfl⟩, rfl, S, ⟨rfl, rfl, rfl, Nat.le_add_right _ _, by simp [sortWorldK, putRowK], fun k hk hS => ?_, fun k h => .inl h⟩, S, fun _ => False, fun _ h => h, fun _ h => h.elim, fun _ _ h => h, ?_, trivial⟩
    · rw [sortWorldK, heap_grow_old _ _ (by simpa [putRowK] using hk)]
      have : g ≠ k := fun e => hS (by rw [← e]; exact h2)
      simp [putRowK, putRow, mapBlock, Sort.ahead, Array.getElem?_modify, this]
    · refine ⟨by rw [dsV_length, hlen'], .inr (.inl ⟨g, off, cap, putCells id off (dsV (l.mergeSort leD)).toArray cur, rfl, h2, ?_, h4, h5, by simp [putCells, h6], ?_⟩)⟩
      · rw [sortWorldK, heap_grow_old _ _ (by simpa [putRowK] using hg), putRowK, hfl]
        simp [putRow, mapBlock, Sort.ahead, Array.getElem?_modify, h3, onCells]
      · have := putCells_id cur off (dsV (l.mergeSort leD)) (by rw [dsV_length, hlen', h6]; omega)
        rw [dsV_length, hlen'] at this
        exact this
  · exact hnone h0 (some a0) h1
end Go.Proofs.YtpajjnkmaebhcabGreat
end
section
namespace Go.Sl
open Go Go.RowKit
section
variable {P : Program} {w0 : World} {S0 : FS} {n : Nat} {F : List (Nat × Value)} {L : List HP} {Q : Exit → Act → World → Prop}
theorem c_scope {c : Code} (h : Reach w0 S0 n F L (c.wp P (Exit.noGoto Q))) : Reach w0 S0 n F L ((Code.scope c).wp P Q) :=
  fun a w hf hs => wp_scope_straight (h a w hf hs)
theorem k_ng_ret (h : Reach w0 S0 n F L (Q .ret)) : Reach w0 S0 n F L (Exit.noGoto Q .ret) := fun a w hf hs => h a w hf hs
variable {Lk : List HP} {ops : Array Oper} {rest : List PI} {i d : Nat} {ty : TypeId} {ps : String} {af : Array Edge}
instance [T : PO Q] : PO (Exit.noGoto Q) := ⟨fun c a d v w h => T.ok c a d v w h⟩
end
end Go.Sl
end
section
set_option linter.unusedVariables false
namespace Fil
open Go.Sl
theorem rot_sys {n : Int} {es : List E} {ls : List (List Int)} (h : rotK n es ls = 0) : RightG n es ∧ ∃ R, ls = intL R ∧ RotL n.toNat (tn es) R := by
  unfold rotK at h
  split at h
  · simp at h
  · rename_i h0
    have hR := right_iff.1 (Classical.byContradiction h0)
    split at h
    · simp at h
    · rename_i h1
      split at h
      · rename_i h2
        rw [List.all_eq_true] at h2
        have hlo := hR.lo
        have hlen : ls.length = n.toNat := by omega
        have hp : ∀ v, v < n.toNat → ((nearS (tn es) v).map fun (k : Nat) => (k : Int)).Perm (ls.getD v []) := fun v hv => by
          have h3 := of_decide_eq_true (h2 v (List.mem_range.2 hv))
          rw [← h3]
          exact List.mergeSort_perm _ _
        have e : ∀ l ∈ ls, (l.map Int.toNat).map (fun (k : Nat) => (k : Int)) = l := fun l hl => by
          obtain ⟨v, hv, rfl⟩ := List.getElem_of_mem hl
          have h4 := hp v (by omega)
          rw [List.getD_eq_getElem?_getD, List.getElem?_eq_getElem hv, Option.getD_some] at h4
          rw [List.map_map]
          have h5 : ∀ x ∈ ls[v], (0 : Int) ≤ x := fun x hx => by
            obtain ⟨k, _, rfl⟩ := List.mem_map.1 (h4.mem_iff.2 hx)
            omega
          conv => rhs; rw [← List.map_id ls[v]]
          apply List.map_congr_left
          intro x hx
          have := h5 x hx
          simp only [Function.comp_apply, id_eq]
          omega
        refine ⟨hR, ls.map fun l => l.map Int.toNat, ?_, by simpa using hlen, fun v hv => ?_⟩
        · rw [intL, List.map_map]
          conv => lhs; rw [← List.map_id ls]
          apply List.map_congr_left
          intro l hl
          exact (e l hl).symm
        · have h4 := (hp v hv).symm.map Int.toNat
          rw [List.map_map] at h4
          have h5 : (nearS (tn es) v).map (Int.toNat ∘ fun (k : Nat) => (k : Int)) = nearS (tn es) v := by
            conv => rhs; rw [← List.map_id (nearS (tn es) v)]
            apply List.map_congr_left
            intro x _
            simp
          rw [h5] at h4
          have h6 : rf (ls.map fun l => l.map Int.toNat) v = (ls.getD v []).map Int.toNat := by
            rw [rf, List.getD_eq_getElem?_getD, List.getElem?_map, List.getD_eq_getElem?_getD]
            cases ls[v]? <;> rfl
          rw [h6]
          exact h4.trans (List.mergeSort_perm _ _)
      · simp at h
theorem rot_zero {n : Int} {es : List E} {R : List (List Nat)} (hR : RightG n es) (h : RotL n.toNat (tn es) R) : rotK n es (intL R) = 0 := by
  have hlo := hR.lo
  have hl : (intL R).length = n.toNat := by rw [intL, List.length_map]; exact h.len
  rw [rotK, if_neg (fun h => h (right_iff.2 hR)), if_neg (by omega), if_pos]
  rw [List.all_eq_true]
  intro v hv
  have hv := List.mem_range.1 hv
  have hg : (intL R).getD v [] = (rf R v).map fun (k : Nat) => (k : Int) := by
    rw [intL, List.getD_eq_getElem?_getD, List.getElem?_map, rf, List.getD_eq_getElem?_getD, List.getElem?_eq_getElem (by have := h.len; omega)]; rfl
  rw [rotB, hg, nat_sort]
  refine decide_eq_true (congrArg _ ?_)
  exact ((List.mergeSort_perm _ _).trans ((h.perm v hv).trans (List.mergeSort_perm _ _).symm)).eq_of_pairwise (fun a b _ _ h1 h2 => Nat.le_antisymm h1 h2)
    ((List.pairwise_mergeSort (fun a b c h1 h2 => by simp at *; omega) (fun a b => by simp; omega) (rf R v)).imp fun h => by simpa using h) (nearS_sort _ _)
theorem RotL.row {n : Int} {es : List E} {R : List (List Nat)} (hR : RightG n es) (h : RotL n.toNat (tn es) R) (v : Nat) : (rf R v).length ≤ n.toNat := by
  have h1 := sub_length (m := List.range n.toNat) ((h.sys hR).nd v) fun u hu => List.mem_range.2 (h.lt hR hu).1
  simpa using h1
theorem RotL.rows {n : Int} {es : List E} {R : List (List Nat)} (hR : RightG n es) (h : RotL n.toNat (tn es) R) : ∀ l ∈ intL R, l.length ≤ 1048576 := fun l hl => by
  have hhi := hR.hi
  obtain ⟨m, hm, rfl⟩ := List.mem_map.1 hl
  obtain ⟨v, hv, rfl⟩ := List.getElem_of_mem hm
  have h1 := h.row hR v
  rw [rf, List.getD_eq_getElem?_getD, List.getElem?_eq_getElem hv] at h1
  rw [List.length_map]
  simp only [Option.getD_some] at h1
  omega
/-- what was met -/
def metL (l : List (Nat × Nat)) : List ((Nat × Nat) × Bool) := l.map fun d => (d, true)
theorem metL_keys (l : List (Nat × Nat)) : (metL l).map Prod.fst = l := by
  rw [metL, List.map_map]
  conv => rhs; rw [← List.map_id l]
  rfl
theorem metL_snoc (l : List (Nat × Nat)) (d : Nat × Nat) : metL (l ++ [d]) = metL l ++ [(d, true)] := by simp [metL]
end Fil
namespace Go.Sl
open Go Go.RowKit Fil
theorem metL_in {l : List (Nat × Nat)} {d : Nat × Nat} (hn : l.Nodup) (h : d ∈ l) : (getK (metL l) d).getD false = true := by
  rw [getK_some (ks := metL l) (b := true) (by rw [metL_keys]; exact hn) (List.mem_map.2 ⟨d, h, rfl⟩)]; rfl
theorem metL_out {l : List (Nat × Nat)} {d : Nat × Nat} (h : d ∉ l) : (getK (metL l) d).getD false = false := by
  rw [getK_none (ks := metL l) (by rw [metL_keys]; exact h)]; rfl
theorem metL_put {l : List (Nat × Nat)} {d : Nat × Nat} (h : d ∉ l) : putK (metL l) d true = metL (l ++ [d]) := by
  rw [putK_new (ks := metL l) (by rw [metL_keys]; exact h), metL_snoc]
def rowD (h : Value) (l : List (Nat × Nat)) : HP := rowHP h 100 2 l.length (dsV l)
theorem dsV_append (a b : List (Nat × Nat)) : dsV (a ++ b) = dsV a ++ dsV b := by simp [dsV]
theorem dsV_at {l : List (Nat × Nat)} {i : Nat} {d : Nat × Nat} (h : l[i]? = some d) : ((dsV l).drop (i * 2)).take 2 = [.int .i64 (d.1 : Int), .int .i64 (d.2 : Int)] := by
  obtain ⟨h1, h2⟩ := dsV_get h
  have hl := (List.getElem?_eq_some_iff.1 h).1
  apply List.ext_getElem?
  intro j
  match j with
  | 0 => rw [List.getElem?_take_of_lt (by omega), List.getElem?_drop]; exact h1
  | 1 => rw [List.getElem?_take_of_lt (by omega), List.getElem?_drop]; exact h2
  | j + 2 => rw [List.getElem?_take_eq_none (by omega)]; rfl
end Go.Sl
end
section
set_option linter.unusedVariables false
namespace Go.Proofs.YtpajjnkmaebhcabGreat
open Go.RowKit Go.Sl Fil
set_option maxRecDepth 100000
set_option maxHeartbeats 8000000
set_option linter.unusedVariables false
set_option linter.unusedSimpArgs false
attribute [local irreducible] Code.wp wpList bodyPost wpQuiet Exit.then Exit.inBlock Post wpAnyH wpOp
theorem rotFaces_ok (n : Int) (v : Value) (es : List E) (vr : Value) (hr0 : List Value) (R : List (List Nat)) (w : World) (hs : Shp v es.length) (hr : RO w No v (esV es)) (hG : RightG n es) (hR : ROs w No vr hr0 R) (hRot : RotL n.toNat (tn es) R) :
    Calls Tryz.prog 88 #[.agg #[.int .i64 n, v], vr] w (Post w No fun r L' => ∃ (vo : Value) (ho : List Value), r = .tuple #[vo, .int .i64 0] ∧ ho.length = (facesR n.toNat (tn es) R).length ∧ L' = [rowHP vo 101 1 (facesR n.toNat (tn es) R).length ho, starHP (kids rowD ho (facesR n.toNat (tn es) R))]) := by
  have hsr := hR.shp
  have hrr := hR.ro
  have hlo := hG.lo
  have hhi := hG.hi
  have hmany := hG.many
  have hRl := hRot.len
  refine enter0 (vs := [_, _]) Tryz.func88 rfl Tryz.ntmps88 rfl ?_
  repeat' first
    | refine k_then ?_ | refine c_seq ?_ | refine c_region ?_ | refine s_nil ?_ | refine s_assign (by exact rfl) (by exact rfl) ?_ | refine o_box (by exact rfl) (by exact rfl) (fun b => ?_)
  refine c_scope ?_
  repeat' first
    | refine c_seq ?_ | refine c_region ?_ | refine s_move (by exact rfl) (by exact rfl) ?_ | refine s_ldk_box (by exact rfl) (by exact rfl) (by exact .head _) (by exact rfl) (by exact rfl) ?_
  refine s_call (by exact rfl) (by exact rfl) (fun w h => rotRight_ok n v es vr hr0 (intL R) w hs (ro_old h hr) (by omega) (rosI_old h hR.int) (hRot.rows hG)) ?_
  rw [rot_zero hG hRot]
  repeat' first
    | refine k_then ?_ | refine c_seq ?_ | refine c_region ?_ | refine s_nil ?_ | refine s_move (by exact rfl) (by exact rfl) ?_ | refine s_assign (by exact rfl) (by exact rfl) ?_ | refine s_neq (by exact rfl) (by exact rfl) (by exact rfl) ?_ | refine c_skip ?_ | (refine c_cond_p (by exact rfl) (fun h => ?_) (fun h => ?_) <;> try (exfalso; omega))
  refine o_call (by exact rfl) (by exact rfl) (fun w h => behind_ok vr hr0 R w (ros_old h hR) (fun v => (hRot.sys hG).nd v) (fun v u hu => by have := (hRot.lt hG hu).1; omega) (by omega) (fun v => by have := hRot.row hG v; omega)) ?_
  rintro vm _ rfl
  repeat' first
    | refine k_then ?_ | refine c_seq ?_ | refine c_region ?_ | refine s_nil ?_ | refine s_move (by exact rfl) (by exact rfl) ?_ | refine s_assign (by exact rfl) (by exact rfl) ?_ | refine s_fa (by exact rfl) (by exact rfl) ?_ | refine s_ld_box (by exact rfl) (by exact rfl) (by exact .tail _ (.head _)) (by exact rfl) ?_ | refine s_len (by exact rfl) (by exact rfl) (by assumption) ?_ | refine c_block ?_
  refine c_nil 100 2 ?_
  refine c_loop (fun x : Nat × Value => x.1 ≤ es.length) (fun x => [(2, .pointer (some ⟨b, 0, none⟩)), (4, .slice none 0 0), (5, .int .i64 0), (7, vm), (8, x.2), (25, v), (26, .int .i64 (es.length : Int)), (27, .int .i64 (x.1 : Int))])
    (fun x => [rowHP x.2 100 2 (dartsE (tn (es.take x.1))).length (dsV (dartsE (tn (es.take x.1)))), mapHP ekD ekD okD vm (behL R R.length), boxHP b 24 [.int .i64 n, v]]) (fun x => es.length - x.1) (0, .slice none 0 0) [0, 0, 0] (Nat.zero_le _) (by exact rfl) ⟨rfl, rfl, rfl, rfl, rfl, rfl, rfl, rfl, trivial⟩ ?_
  rintro ⟨k, va⟩ hk
  dsimp only at hk ⊢
  have hml : (dartsE (tn (es.take k))).length = 2 * k := by rw [dartsE_length, tn_len, List.length_take]; omega
  by_cases hlt : k < es.length
  · obtain ⟨e, he⟩ : ∃ e, es[k]? = some e := ⟨_, List.getElem?_eq_getElem hlt⟩
    have hE := esV_at he
    have htk : dartsE (tn (es.take (k + 1))) = dartsE (tn (es.take k)) ++ [(e.1.toNat, e.2.1.toNat), (e.2.1.toNat, e.1.toNat)] := by
      rw [List.take_add_one, he, tn, List.map_append, ← tn]
      exact dartsE_snoc _ (e.1.toNat, e.2.1.toNat)
    obtain ⟨o1, o2, o3, o4, _⟩ := hG.ok e (List.mem_of_getElem? he)
    have u1 : e.1 = (e.1.toNat : Int) := by omega
    have u2 : e.2.1 = (e.2.1.toNat : Int) := by omega
    repeat' first
      | refine k_then ?_ | refine c_seq ?_ | refine c_region ?_ | refine s_nil ?_ | refine s_lss (by exact rfl) (by exact rfl) (by exact rfl) ?_ | refine s_idx (by exact rfl) (by exact rfl) (by exact rfl) (by assumption) (by first | assumption | omega) ?_ | refine s_ldk_ro (by exact rfl) (by exact rfl) (by assumption) (by decide) (by assumption) (by exact rfl) ?_ | refine o_alloc (by exact rfl) (fun b => ?_) | refine c_block ?_ | refine c_skip ?_ | (refine c_cond_p (by exact rfl) (fun h => ?_) (fun h => ?_) <;> try (exfalso; omega))
    refine o_stk_box (i := 0) (us := eV e) (by exact rfl) (by exact rfl) (by exact rfl) (by exact rfl) (by exact rfl) (by simp [eV, Value.oneCell']) (by simp [Value.cells]) ?_
    repeat' first
      | refine k_then ?_ | refine c_region ?_ | refine s_nil ?_ | refine s_move (by exact rfl) (by exact rfl) ?_ | refine s_fa (by exact rfl) (by exact rfl) ?_ | refine s_ld_box (by exact rfl) (by exact rfl) (by exact .head _) (by exact rfl) ?_
    refine o_build (cs := [.int .i64 e.1, .int .i64 e.2.1]) [(0, .int .i64 e.1, [.int .i64 e.1]), (1, .int .i64 e.2.1, [.int .i64 e.2.1])] (by exact rfl) (by exact rfl) (by simp [Value.cells]) (by exact rfl) ?_
    repeat' first
      | refine s_fa (by exact rfl) (by exact rfl) ?_ | refine s_ld_box (by exact rfl) (by exact rfl) (by exact .head _) (by exact rfl) ?_
    refine o_build (cs := [.int .i64 e.2.1, .int .i64 e.1]) [(0, .int .i64 e.2.1, [.int .i64 e.2.1]), (1, .int .i64 e.1, [.int .i64 e.1])] (by exact rfl) (by exact rfl) (by simp [Value.cells]) (by exact rfl) ?_
    refine o_mk [.agg #[.int .i64 e.1, .int .i64 e.2.1], .agg #[.int .i64 e.2.1, .int .i64 e.1]] (by exact rfl) (by exact rfl) rfl ?_ ?_ (by simp) fun vi hvi => ?_
    · simp [Value.cells]
    · simp
    have hnew : ([Value.agg #[.int .i64 e.1, .int .i64 e.2.1], .agg #[.int .i64 e.2.1, .int .i64 e.1]].flatMap fun u => u.cells.toList) = dsV [(e.1.toNat, e.2.1.toNat), (e.2.1.toNat, e.1.toNat)] := by
      rw [show dsV [(e.1.toNat, e.2.1.toNat), (e.2.1.toNat, e.1.toNat)] = [.int .i64 (e.1.toNat : Int), .int .i64 (e.2.1.toNat : Int), .int .i64 (e.2.1.toNat : Int), .int .i64 (e.1.toNat : Int)] from rfl, ← u1, ← u2]
      rfl
    rw [hnew]
    skip
    refine o_append_row (i := 2) (by exact rfl) (by exact rfl) (by exact rfl) (by exact rfl) (by exact .head _) (by exact rfl) (by intro u hu; exact dsV_one _ u hu) (by rw [hml]; show (2 * k + 2) * 16 ≤ _; omega) fun vy hvy => ?_
    repeat' first
      | refine k_then ?_ | refine c_region ?_ | refine s_nil ?_ | refine s_move (by exact rfl) (by exact rfl) ?_ | refine s_assign (by exact rfl) (by exact rfl) ?_ | refine s_add (by exact rfl) (by exact rfl) (by exact rfl) (by omega) ?_ | refine k_blk ?_
    refine c_round (k + 1, vy) [2, 2, 2] ?_ (by exact ⟨rfl, rfl, rfl, rfl, rfl, rfl, rfl, rfl, trivial⟩) (by dsimp only; omega) (by dsimp only; omega)
    dsimp only
    rw [htk, dsV_append, List.length_append]
    rfl
  · repeat' first
      | refine k_then ?_ | refine c_seq ?_ | refine c_region ?_ | refine s_nil ?_ | refine s_move (by exact rfl) (by exact rfl) ?_ | refine s_lss (by exact rfl) (by exact rfl) (by exact rfl) ?_ | refine c_exit ?_ | refine k_then_exit ?_ | refine k_blk_eq ?_ | (refine c_cond_p (by exact rfl) (fun h => ?_) (fun h => ?_) <;> try (exfalso; omega))
    obtain rfl : k = es.length := by omega
    rw [List.take_length] at *
    refine s_lend [rowHP va 100 2 (dartsE (tn es)).length (dsV (dartsE (tn es)))] _ (by exact rfl) (by exact rfl) (by exact rfl) (fun w S h => dartSort_row (sats_mem h.own (.head _)) (by omega)) ?_
    rintro _ _ ⟨rfl, rfl⟩
    have hml2 : (dartsE (tn es)).length = 2 * es.length := by rw [dartsE_length, tn_len]
    rw [darts_sorted hG, hml2, ← dartsAll_length hG]
    have hnd := dartsAll_nodup hG
    have hi := all_inj hG hRot
    have hm := all_mem hG hRot
    have hdl := dartsAll_length hG
    have hin : ∀ d ∈ dartsAll n.toNat (tn es), d.1 < n.toNat ∧ d.2 < n.toNat := fun d hd => dart_lt hG hd
    have hlk : ∀ d ∈ dartsAll n.toNat (tn es), (getK (behL R R.length) d).getD (0, 0) = nxt (rf R) d := fun d hd => by
      have h1 := (dart_in hG hRot).1 hd
      have h2 := (hRot.sys hG).sym h1
      rw [getK_some (behL_nodup (fun v => (hRot.sys hG).nd v) _) (beh_look (fun v => (hRot.sys hG).nd v) (by have := (hin d hd).2; omega) h2)]
      rfl
    have hfR : facesR n.toNat (tn es) R = (dartsAll n.toNat (tn es)).foldl (facesStep (nxt (rf R)) (2 * es.length + 1)) [] := by rw [facesR, facesL, tn_len]
    rw [hfR]
    generalize dartsAll n.toNat (tn es) = ds at *
    generalize nxt (rf R) = G at *
    generalize behL R R.length = Bh at *
    repeat' first
      | refine k_then ?_ | refine c_seq ?_ | refine c_region ?_ | refine s_nil ?_
    refine o_makeMap (by exact rfl) fun bm => ?_
    repeat' first
      | refine k_then ?_ | refine c_seq ?_ | refine s_nil ?_ | refine s_assign (by exact rfl) (by exact rfl) ?_
    refine c_label ?_
    refine know_row (v := va) (by exact .tail _ (.head _)) fun hva _ => ?_
    repeat' first
      | refine k_then ?_ | refine c_seq ?_ | refine c_region ?_ | refine s_nil ?_ | refine s_move (by exact rfl) (by exact rfl) ?_ | refine s_len (by exact rfl) (by exact rfl) (by assumption) ?_ | refine c_block ?_
    refine c_nil 101 1 ?_
    refine c_star0 ?_
    refine c_loop (fun x : Nat × Value × List Value => x.1 ≤ ds.length ∧ Fs G ds ((ds.take x.1).foldl (facesStep G (2 * es.length + 1)) []) ∧ x.2.2.length = ((ds.take x.1).foldl (facesStep G (2 * es.length + 1)) []).length ∧ ((ds.take x.1).foldl (facesStep G (2 * es.length + 1)) []).length ≤ x.1)
      (fun x => [(4, x.2.1), (5, .int .i64 0), (7, vm), (11, .map (some bm)), (48, va), (49, .int .i64 (ds.length : Int)), (50, .int .i64 (x.1 : Int))])
      (fun x => [mapHP ekD Value.bool okD (.map (some bm)) (metL ((ds.take x.1).foldl (facesStep G (2 * es.length + 1)) []).flatten), rowHP va 100 2 ds.length (dsV ds), mapHP ekD ekD okD vm Bh, rowHP x.2.1 101 1 ((ds.take x.1).foldl (facesStep G (2 * es.length + 1)) []).length x.2.2, starHP (kids rowD x.2.2 ((ds.take x.1).foldl (facesStep G (2 * es.length + 1)) []))])
      (fun x => ds.length - x.1) (0, .slice none 0 0, []) [2, 2, 2, 1, 0] ⟨Nat.zero_le _, ⟨by simp, by simp, by simp⟩, rfl, by simp⟩ (by exact rfl) ⟨rfl, rfl, rfl, rfl, rfl, rfl, rfl, trivial⟩ ?_
    rintro ⟨k, vo, ho⟩ ⟨hk, hFs, hol, hok⟩
    dsimp only at hk hFs hol hok ⊢
    by_cases hlt : k < ds.length
    · obtain ⟨d0, hd0⟩ : ∃ d, ds[k]? = some d := ⟨_, List.getElem?_eq_getElem hlt⟩
      have hd0m := List.mem_of_getElem? hd0
      have hE := dsV_at hd0
      have htk : (ds.take (k + 1)).foldl (facesStep G (2 * es.length + 1)) [] = facesStep G (2 * es.length + 1) ((ds.take k).foldl (facesStep G (2 * es.length + 1)) []) d0 := by
        rw [List.take_add_one, hd0, List.foldl_append]; rfl
      have hFs1 := (hFs.step hi hm (n := 2 * es.length + 1) (by omega) hd0m).1
      generalize (ds.take k).foldl (facesStep G (2 * es.length + 1)) [] = out at *
      repeat' first
        | refine k_then ?_ | refine c_seq ?_ | refine c_region ?_ | refine s_nil ?_ | refine s_lss (by exact rfl) (by exact rfl) (by exact rfl) ?_ | refine s_idx (by exact rfl) (by exact rfl) (by exact rfl) (by assumption) (by first | assumption | omega) ?_ | refine s_ldk_row (by exact rfl) (by exact rfl) (by exact .tail _ (.head _)) (by decide) (by assumption) (by exact rfl) ?_ | refine o_alloc (by exact rfl) (fun b => ?_) | refine c_block ?_ | refine c_skip ?_ | (refine c_cond_p (by exact rfl) (fun h => ?_) (fun h => ?_) <;> try (exfalso; omega))
      refine o_stk_box (i := 0) (us := [.int .i64 (d0.1 : Int), .int .i64 (d0.2 : Int)]) (by exact rfl) (by exact rfl) (by exact rfl) (by exact rfl) (by exact rfl) (by simp [Value.oneCell']) (by simp [Value.cells]) ?_
      repeat' first
        | refine k_then ?_ | refine c_seq ?_ | refine c_region ?_ | refine s_nil ?_ | refine s_assign (by exact rfl) (by exact rfl) ?_ | refine s_ldk_box (by exact rfl) (by exact rfl) (by exact .head _) (by exact rfl) (by exact rfl) ?_ | refine o_alloc (by exact rfl) (fun b => ?_)
      rename_i b13 _ b15
      refine o_stk_box (i := 0) (us := [.int .i64 (d0.1 : Int), .int .i64 (d0.2 : Int)]) (by exact rfl) (by exact rfl) (by exact rfl) (by exact rfl) (by exact rfl) (by simp [Value.oneCell']) (by simp [Value.cells]) ?_
      repeat' first
        | refine k_then ?_ | refine s_nil ?_ | refine c_block ?_
      refine c_nil 100 2 ?_
      refine c_loop (fun x : List (Nat × Nat) × (Nat × Nat) × Value × Nat => (d0 ∉ out.flatten → InF G ds out d0 x.1 x.2.1) ∧ (d0 ∈ out.flatten → x.1 = [] ∧ x.2.1 = d0) ∧ x.2.1 ∈ ds ∧ (out.flatten ++ x.1).Nodup ∧ x.1.length ≤ ds.length)
        (fun x => [(4, vo), (5, .int .i64 0), (7, vm), (11, .map (some bm)), (14, x.2.2.1), (15, .pointer (some ⟨x.2.2.2, 0, none⟩)), (48, va), (49, .int .i64 (ds.length : Int)), (50, .int .i64 (k : Int))])
        (fun x => [rowHP x.2.2.1 100 2 x.1.length (dsV x.1), mapHP ekD Value.bool okD (.map (some bm)) (metL (out.flatten ++ x.1)), boxHP x.2.2.2 100 [.int .i64 (x.2.1.1 : Int), .int .i64 (x.2.1.2 : Int)], mapHP ekD ekD okD vm Bh, rowHP va 100 2 ds.length (dsV ds), rowHP vo 101 1 out.length ho, starHP (kids rowD ho out)])
        (fun x => ds.length - x.1.length) ([], d0, .slice none 0 0, b) [0, 2, 0, 2, 1, 1, 1] ⟨fun h => hFs.start hd0m h, fun _ => ⟨rfl, rfl⟩, hd0m, by simpa using hFs.nd, Nat.zero_le _⟩ (by simp only [List.append_nil]; exact rfl) ⟨rfl, rfl, rfl, rfl, rfl, rfl, rfl, rfl, rfl, trivial⟩ ?_
      rintro ⟨f, x, vf, bx⟩ ⟨hI, hJ, hxm, hfn, hfl⟩
      dsimp only at hI hJ hxm hfn hfl ⊢
      refine know_row (v := vf) (.head _) fun hvf _ => ?_
      have hxin := hin x hxm
      have hgx := hin (G x) (hm x hxm)
      have hlkx := hlk x hxm
      by_cases hmet : x ∈ out.flatten ++ f
      · have hl1 := metL_in hfn hmet
        by_cases hf0 : f = []
        · have hd0f : d0 ∈ out.flatten := Classical.byContradiction fun hc => by
            rw [hf0, List.append_nil] at hmet
            exact (hI hc).far hmet
          have hfz : f.length = 0 := by rw [hf0]; rfl
          repeat' first
            | refine k_then ?_ | refine c_seq ?_ | refine c_region ?_ | refine s_nil ?_ | refine s_move (by exact rfl) (by exact rfl) ?_ | refine s_assign (by exact rfl) (by exact rfl) ?_ | refine s_add (by exact rfl) (by exact rfl) (by exact rfl) (by omega) ?_ | refine s_look (by exact rfl) (by exact rfl) (by exact rfl) (by exact .tail _ (.head _)) (by exact rfl) (by assumption) (by first | exact ⟨by omega, by omega⟩ | exact ⟨⟨by omega, by omega⟩, by omega, by omega⟩) ?_ | refine s_pick_t (by exact rfl) (by exact rfl) (by exact rfl) ?_ | refine s_ldk_box (by exact rfl) (by exact rfl) (by exact .tail _ (.tail _ (.head _))) (by exact rfl) (by exact rfl) ?_ | refine c_block ?_ | refine c_skip ?_ | refine c_exit ?_ | refine k_then_exit ?_ | refine k_blk_eq ?_ | refine k_blk_ne (by exact rfl) ?_ | (refine c_cond_p (by exact rfl) (fun h => ?_) (fun h => ?_) <;> try (exfalso; omega)) | refine c_cond_t (by exact rfl) ?_ | refine w_move (by exact rfl) (by exact rfl) (by exact rfl) (by exact rfl) ?_ | refine w_gtr (by exact rfl) (by exact rfl) (by exact rfl) (by exact rfl) (by exact rfl) ?_ | refine w_len (by exact rfl) (by exact rfl) (by exact rfl) (by exact rfl) (by assumption) ?_
          have hst : facesStep G (2 * es.length + 1) out d0 = out := if_pos hd0f
          rw [hst] at htk
          subst hf0
          refine c_round (k + 1, vo, ho) [1, 3, 2, 2, 2] (by dsimp only; rw [htk, List.append_nil]; rfl) ⟨rfl, rfl, rfl, rfl, rfl, rfl, rfl, trivial⟩ ⟨by dsimp only; omega, by dsimp only; rw [htk]; exact hFs, by dsimp only; rw [htk]; exact hol, by dsimp only; rw [htk]; omega⟩ (by dsimp only; omega)
        · have hd0f : d0 ∉ out.flatten := fun hc => hf0 (hJ hc).1
          have hInF := hI hd0f
          have hxf : x ∈ f := (List.mem_append.1 hmet).resolve_left hInF.far
          have hxd := hInF.met hi hxf
          have hfz : 0 < f.length := List.length_pos_iff.2 hf0
          repeat' first
            | refine k_then ?_ | refine c_seq ?_ | refine c_region ?_ | refine s_nil ?_ | refine s_move (by exact rfl) (by exact rfl) ?_ | refine s_assign (by exact rfl) (by exact rfl) ?_ | refine s_look (by exact rfl) (by exact rfl) (by exact rfl) (by exact .tail _ (.head _)) (by exact rfl) (by assumption) (by first | exact ⟨by omega, by omega⟩ | exact ⟨⟨by omega, by omega⟩, by omega, by omega⟩) ?_ | refine s_pick_t (by exact rfl) (by exact rfl) (by exact rfl) ?_ | refine s_ldk_box (by exact rfl) (by exact rfl) (by exact .tail _ (.tail _ (.head _))) (by exact rfl) (by exact rfl) ?_ | refine c_block ?_ | refine c_exit ?_ | refine k_then_exit ?_ | refine k_blk_eq ?_ | (refine c_cond_p (by exact rfl) (fun h => ?_) (fun h => ?_) <;> try (exfalso; omega)) | refine w_move (by exact rfl) (by exact rfl) (by exact rfl) (by exact rfl) ?_ | refine w_gtr (by exact rfl) (by exact rfl) (by exact rfl) (by exact rfl) (by exact rfl) ?_ | refine w_len (by exact rfl) (by exact rfl) (by exact rfl) (by exact rfl) (by assumption) ?_
          rw [hxd] at hInF
          have hst : facesStep G (2 * es.length + 1) out d0 = out ++ [f] := by rw [facesStep, if_neg hd0f, hInF.tr hf0 (by omega)]
          rw [hst] at htk hFs1
          refine o_mk [vf] (by exact rfl) (by exact rfl) rfl ?_ ?_ (by simp) fun vt hvt => ?_
          · intro u hu
            obtain rfl : u = vf := by simpa using hu
            rw [← Array.length_toList, one_cells hvf.one]; rfl
          · simp
          rw [show ([vf].flatMap fun u => u.cells.toList) = [vf] from by simp [one_cells hvf.one]]
          skip
          refine o_append_row (i := 6) (by exact rfl) (by exact rfl) (by exact rfl) (by exact rfl) (by exact .head _) (by exact rfl) (by simp [hvf.one]) ?_ fun vo2 hvo2 => ?_
          · show (out.length + 1) * 24 ≤ _
            omega
          repeat' first
            | refine k_then ?_ | refine c_seq ?_ | refine c_region ?_ | refine s_nil ?_ | refine s_move (by exact rfl) (by exact rfl) ?_ | refine s_assign (by exact rfl) (by exact rfl) ?_ | refine s_add (by exact rfl) (by exact rfl) (by exact rfl) (by omega) ?_ | refine c_exit ?_ | refine k_then_exit ?_ | refine k_blk ?_ | refine k_blk_eq ?_ | refine k_blk_ne (by exact rfl) ?_
          refine c_pick [1, 1, 3, 2, 2, 2] (by exact rfl) ?_
          refine c_pushk 4 (by exact rfl) ?_
          refine c_round (k + 1, vo2, ho ++ [vf]) [0, 0, 0, 0, 0] ?_ ⟨rfl, rfl, rfl, rfl, rfl, rfl, rfl, trivial⟩ ⟨by dsimp only; omega, by dsimp only; rw [htk]; exact hFs1, by dsimp only; rw [htk, List.length_append, List.length_append, hol]; rfl, by dsimp only; rw [htk, List.length_append]; simp only [List.length_cons, List.length_nil]; omega⟩ (by dsimp only; omega)
          dsimp only
          rw [htk, kids_append hol, List.length_append, List.flatten_append, show [f].flatten = f by simp]
          rfl
      · have hl1 := metL_out hmet
        repeat' first
          | refine k_then ?_ | refine c_seq ?_ | refine c_region ?_ | refine s_nil ?_ | refine s_move (by exact rfl) (by exact rfl) ?_ | refine s_assign (by exact rfl) (by exact rfl) ?_ | refine s_look (by exact rfl) (by exact rfl) (by exact rfl) (by exact .tail _ (.head _)) (by exact rfl) (by assumption) (by first | exact ⟨by omega, by omega⟩ | exact ⟨⟨by omega, by omega⟩, by omega, by omega⟩) ?_ | refine s_pick_f (by exact rfl) (by exact rfl) (by exact rfl) ?_ | refine s_ldk_box (by exact rfl) (by exact rfl) (by exact .tail _ (.tail _ (.head _))) (by exact rfl) (by exact rfl) ?_ | refine c_block ?_ | refine c_skip ?_ | refine c_exit ?_ | refine k_then_exit ?_ | refine k_blk_eq ?_ | refine k_blk_ne (by exact rfl) ?_ | refine c_cond_f (by exact rfl) ?_ | refine g_skip (by exact rfl) (by exact rfl) (by exact rfl) (by exact rfl) ?_
        have hd0f : d0 ∉ out.flatten := fun hc => hmet (List.mem_append.2 (.inl ((hJ hc).2 ▸ hc)))
        have hInF := hI hd0f
        have hne : f = [] ∨ x ≠ d0 := by
          cases f with
          | nil => exact .inl rfl
          | cons a f =>
            refine .inr fun e => hmet (List.mem_append.2 (.inr ?_))
            have h1 : d0 = a := hInF.st.1
            rw [e, h1]; exact .head _
        obtain ⟨hxf, hInF2⟩ := hInF.more hi hm hFs.cy hFs.sub hne
        have hroom := hInF.room hxf
        refine o_mapup (ek := ekD) (ev := Value.bool) (ok := okD) (i := 1) x true (by exact rfl) (by exact rfl) (by exact rfl) (by exact rfl) (by exact rfl) rfl ⟨by omega, by omega⟩ ?_
        rw [metL_put hmet, List.append_assoc]
        repeat' first
          | refine k_then ?_ | refine c_region ?_ | refine s_nil ?_ | refine s_move (by exact rfl) (by exact rfl) ?_ | refine s_ldk_box (by exact rfl) (by exact rfl) (by exact .tail _ (.tail _ (.head _))) (by exact rfl) (by exact rfl) ?_
        refine o_mk [.agg #[.int .i64 (x.1 : Int), .int .i64 (x.2 : Int)]] (by exact rfl) (by exact rfl) rfl ?_ ?_ (by simp) fun vt hvt => ?_
        · simp [Value.cells]
        · simp
        rw [show ([Value.agg #[.int .i64 (x.1 : Int), .int .i64 (x.2 : Int)]].flatMap fun u => u.cells.toList) = dsV [x] from rfl]
        skip
        refine o_append_row (i := 1) (by exact rfl) (by exact rfl) (by exact rfl) (by exact rfl) (by exact .head _) (by exact rfl) (by intro u hu; exact dsV_one _ u hu) ?_ fun vf2 hvf2 => ?_
        · show (f.length + 1) * 16 ≤ _
          omega
        repeat' first
          | refine k_then ?_ | refine c_seq ?_ | refine c_region ?_ | refine s_nil ?_ | refine s_assign (by exact rfl) (by exact rfl) ?_ | refine s_ldk_box (by exact rfl) (by exact rfl) (by exact .tail _ (.tail _ (.tail _ (.head _)))) (by exact rfl) (by exact rfl) ?_ | refine o_alloc (by exact rfl) (fun b => ?_) | refine k_blk ?_
        refine o_stk_box (i := 0) (us := [.int .i64 (x.1 : Int), .int .i64 (x.2 : Int)]) (by exact rfl) (by exact rfl) (by exact rfl) (by exact rfl) (by exact rfl) (by simp [Value.oneCell']) (by simp [Value.cells]) ?_
        repeat' first
          | refine k_then ?_ | refine c_region ?_ | refine s_nil ?_ | refine s_move (by exact rfl) (by exact rfl) ?_ | refine s_look (by exact rfl) (by exact rfl) (by exact rfl) (by exact .tail _ (.tail _ (.tail _ (.tail _ (.tail _ (.head _)))))) (by exact rfl) (by assumption) (by first | exact ⟨by omega, by omega⟩ | exact ⟨⟨by omega, by omega⟩, by omega, by omega⟩) ?_ | refine s_ldk_box (by exact rfl) (by exact rfl) (by exact .head _) (by exact rfl) (by exact rfl) ?_
        refine o_stk_box (i := 0) (us := [.int .i64 ((G x).1 : Int), .int .i64 ((G x).2 : Int)]) (by exact rfl) (by exact rfl) (by exact rfl) (by exact rfl) (by exact rfl) (by simp [Value.oneCell']) (by simp [Value.cells, putL]) ?_
        repeat' first
          | refine k_then ?_ | refine s_nil ?_
        refine c_round (f ++ [x], G x, vf2, b) [2, 2, 0, 2, 2, 2, 2] ?_ ⟨rfl, rfl, rfl, rfl, rfl, rfl, rfl, rfl, rfl, trivial⟩ ⟨fun _ => hInF2, fun hc => absurd hc hd0f, hm x hxm, ?_, by dsimp only; rw [List.length_append]; exact hroom⟩ (by dsimp only; rw [List.length_append]; simp only [List.length_cons, List.length_nil]; omega)
        · dsimp only
          rw [dsV_append, List.length_append]
          rfl
        · dsimp only
          rw [← List.append_assoc, List.nodup_append]
          refine ⟨hfn, by simp, fun a ha b hb e => ?_⟩
          obtain rfl : b = x := by simpa using hb
          exact hmet (e ▸ ha)
    · repeat' first
        | refine k_then ?_ | refine c_seq ?_ | refine c_region ?_ | refine s_nil ?_ | refine s_move (by exact rfl) (by exact rfl) ?_ | refine s_assign (by exact rfl) (by exact rfl) ?_ | refine s_lss (by exact rfl) (by exact rfl) (by exact rfl) ?_ | refine c_exit ?_ | refine c_ret ?_ | refine k_then_exit ?_ | refine k_blk_eq ?_ | (refine c_cond_p (by exact rfl) (fun h => ?_) (fun h => ?_) <;> try (exfalso; omega))
      obtain rfl : k = ds.length := by omega
      rw [List.take_length] at *
      refine k_ng_ret ?_
      refine retL [.tmp 4, .tmp 5] [vo, .int .i64 0] [3, 3] rfl ⟨res_tmp rfl, res_tmp rfl, trivial⟩ (by exact rfl) ⟨vo, ho, rfl, hol, rfl⟩
end Go.Proofs.YtpajjnkmaebhcabGreat
end
section
namespace Fil
def ab (l : List (Nat × Nat)) (u : Nat) : List (Nat × Nat) := l.zipIdx.filterMap fun p => if p.1.1 = u then some (p.1.2, p.2) else if p.1.2 = u then some (p.1.1, p.2) else none
def arcsL (N : Nat) (l : List (Nat × Nat)) : List (List (Nat × Nat)) := (List.range N).map (ab l)
theorem ab_snoc (l : List (Nat × Nat)) (e : Nat × Nat) (u : Nat) : ab (l ++ [e]) u = ab l u ++ (if e.1 = u then [(e.2, l.length)] else if e.2 = u then [(e.1, l.length)] else []) := by
  simp only [ab, List.zipIdx_append, List.filterMap_append, List.zipIdx_cons, List.zipIdx_nil, List.filterMap_cons, List.filterMap_nil, Nat.zero_add]
  split <;> (try split) <;> simp_all <;> split <;> simp_all
theorem ab_fst (l : List (Nat × Nat)) (u : Nat) : (ab l u).map Prod.fst = nb l u := by
  have key : ∀ (l : List (Nat × Nat)) (k : Nat), ((l.zipIdx k).filterMap fun p => if p.1.1 = u then some (p.1.2, p.2) else if p.1.2 = u then some (p.1.1, p.2) else none).map Prod.fst = nb l u := by
    intro l
    induction l with
    | nil => intro k; rfl
    | cons e l ih =>
      intro k
      simp only [List.zipIdx_cons, List.filterMap_cons, nb]
      have := ih (k + 1)
      simp only [nb] at this
      by_cases h1 : e.1 = u
      · simp [h1, this]
      · by_cases h2 : e.2 = u
        · simp [h1, h2, this]
        · simp [h1, h2, this]
  exact key l 0
theorem ab_length (l : List (Nat × Nat)) (u : Nat) : (ab l u).length ≤ l.length := by
  have := nb_length l u
  rw [← ab_fst, List.length_map] at this
  exact this
theorem arcs_snoc {N : Nat} {l : List (Nat × Nat)} {u v : Nat} (hu : u < N) (hv : v < N) (hne : u ≠ v) : arcsL N (l ++ [(u, v)]) = ((arcsL N l).set u (ab l u ++ [(v, l.length)])).set v (ab l v ++ [(u, l.length)]) := by
  apply List.ext_getElem?
  intro k
  simp only [arcsL, List.getElem?_set, List.getElem?_map, List.length_set, List.length_map, List.length_range]
  by_cases hk : k < N
  · rw [List.getElem?_eq_getElem (by simpa using hk)]
    simp only [List.getElem_range, Option.map_some, ab_snoc]
    by_cases h1 : u = k
    · subst h1
      simp [Ne.symm hne, hu]
    · by_cases h2 : v = k
      · subst h2
        simp [hv, h1]
      · simp [h1, h2]
  · rw [List.getElem?_eq_none (by simpa using hk)]
    have h1 : u ≠ k := by omega
    have h2 : v ≠ k := by omega
    simp [h1, h2]
theorem arcs_get {N : Nat} {l : List (Nat × Nat)} {u : Nat} (hu : u < N) : (arcsL N l)[u]? = some (ab l u) := by simp [arcsL, hu]
theorem arcs_zero (N : Nat) : arcsL N [] = List.replicate N [] := by
  have : ab [] = fun _ => [] := rfl
  rw [arcsL, this, List.map_const', List.length_range]
theorem tn_length (es : List E) : (tn es).length = es.length := by simp [tn]
end Fil
end
section
namespace Go.Sl
open Go Go.RowKit
def aV (l : List (Nat × Nat)) : List Value := l.flatMap fun a => [.int .i64 (a.1 : Int), .int .i64 (a.2 : Int)]
def rowA (h : Value) (l : List (Nat × Nat)) : HP := rowHP h 127 2 l.length (aV l)
end Go.Sl
namespace Go.Proofs.YtpajjnkmaebhcabGreat
open Go.RowKit Go.Sl Fil
set_option maxRecDepth 100000
set_option maxHeartbeats 8000000
set_option linter.unusedVariables false
set_option linter.unusedSimpArgs false
attribute [local irreducible] Code.wp wpList bodyPost wpQuiet Exit.then Exit.inBlock Post wpAnyH wpOp
theorem arcs_ok (n : Int) (v : Value) (es : List E) (w : World) (hs : Shp v es.length) (hr : RO w No v (esV es)) (hR : RightG n es) :
    Calls Tryz.prog 94 #[.agg #[.int .i64 n, v]] w (Post w No fun r L' => ∃ hs : List Value, hs.length = n.toNat ∧ L' = [rowHP r 125 1 n.toNat hs, starHP (kids rowA hs (arcsL n.toNat (tn es)))]) := by
  have hm : es.length < 4611686018427387904 := by have := hR.many; omega
  have hlo := hR.lo
  have hhi := hR.hi
  refine enter0 (vs := [_]) Tryz.func94 rfl Tryz.ntmps94 rfl ?_
  repeat' first
    | refine k_then ?_ | refine c_seq ?_ | refine c_region ?_ | refine s_nil ?_ | refine s_assign (by exact rfl) (by exact rfl) ?_ | refine s_fa (by exact rfl) (by exact rfl) ?_ | refine s_ld_box (by exact rfl) (by exact rfl) (by exact .head _) (by exact rfl) ?_ | refine o_box (by exact rfl) (by exact rfl) (fun b => ?_)
  refine o_make (by exact rfl) (by exact rfl) (by exact rfl) (by omega) (by omega) fun vo hvo => ?_
  rw [made1 rfl]
  repeat' first
    | refine k_then ?_ | refine c_seq ?_ | refine c_region ?_ | refine s_nil ?_ | refine s_move (by exact rfl) (by exact rfl) ?_ | refine s_assign (by exact rfl) (by exact rfl) ?_ | refine s_fa (by exact rfl) (by exact rfl) ?_ | refine s_ld_box (by exact rfl) (by exact rfl) (by exact .tail _ (.head _)) (by exact rfl) ?_ | refine s_len (by exact rfl) (by exact rfl) (by assumption) ?_ | refine c_block ?_
  refine c_nils 127 2 n.toNat ?_
  refine c_loop (fun x : Nat × List Value => x.1 ≤ es.length ∧ x.2.length = n.toNat) (fun x => [(3, vo), (10, v), (11, .int .i64 (es.length : Int)), (12, .int .i64 (x.1 : Int))]) (fun x => [rowHP vo 125 1 n.toNat x.2, starHP (kids rowA x.2 (arcsL n.toNat (tn (es.take x.1))))]) (fun x => es.length - x.1) (0, List.replicate n.toNat (.slice none 0 0)) [1, 0] ⟨by omega, by simp⟩ ?_ ⟨rfl, rfl, rfl, rfl, trivial⟩ ?_
  · show _ = some [_, starHP (kids rowA _ (arcsL n.toNat []))]
    rw [arcs_zero, kids_nils]
    rfl
  rintro ⟨k, hs0⟩ ⟨hk, hl0⟩
  dsimp only at hk hl0 ⊢
  by_cases hlt : k < es.length
  · obtain ⟨e, he⟩ : ∃ e, es[k]? = some e := ⟨_, List.getElem?_eq_getElem hlt⟩
    have hE := esV_at he
    obtain ⟨q1, q2, q3, -, -⟩ := hR.ok e (List.mem_of_getElem? he)
    have hsn := arcs_snoc (N := n.toNat) (l := tn (es.take k)) (u := e.1.toNat) (v := e.2.1.toNat) (by omega) (by omega) (by omega)
    rw [← tn_take he, tn_length, List.length_take, Nat.min_eq_left (by omega)] at hsn
    generalize hls : arcsL n.toNat (tn (es.take k)) = ls at *
    have hb : ∀ u, (ab (tn (es.take k)) u).length ≤ 4194304 := fun u => by
      have := ab_length (tn (es.take k)) u
      have h2 := hR.many
      rw [tn_length, List.length_take] at this
      omega
    repeat' first
      | refine k_then ?_ | refine c_seq ?_ | refine c_region ?_ | refine s_nil ?_ | refine s_move (by exact rfl) (by exact rfl) ?_ | refine s_assign (by exact rfl) (by exact rfl) ?_ | refine s_lss (by exact rfl) (by exact rfl) (by exact rfl) ?_ | refine s_idx (by exact rfl) (by exact rfl) (by exact rfl) (by assumption) (by first | assumption | omega) ?_ | refine s_ldk_ro (by exact rfl) (by exact rfl) (by assumption) (by decide) (by assumption) (by exact rfl) ?_ | refine o_alloc (by exact rfl) (fun b => ?_) | refine c_block ?_ | refine c_skip ?_ | (refine c_cond_p (by exact rfl) (fun h => ?_) (fun h => ?_) <;> try (exfalso; omega))
    refine o_stk_box (i := 0) (us := eV e) (by exact rfl) (by exact rfl) (by exact rfl) (by exact rfl) (by exact rfl) (by simp [eV, Value.oneCell']) (by simp [Value.cells]) ?_
    repeat' first
      | refine k_then ?_ | refine c_seq ?_ | refine s_nil ?_
    refine c_cut (fun hs1 : List Value => hs1.length = n.toNat) (fun _ => [(4, .int .i64 (k : Int)), (5, .pointer (some ⟨b, 0, none⟩)), (3, vo), (10, v), (11, .int .i64 (es.length : Int)), (12, .int .i64 (k : Int))]) (fun hs1 => [boxHP b 37 (eV e), rowHP vo 125 1 n.toNat hs1, starHP (kids rowA hs1 (ls.set e.1.toNat ((ab (tn (es.take k)) e.1.toNat) ++ [(e.2.1.toNat, k)])))]) ?_ fun hs1 hl1 => ?_
    · obtain ⟨hd, hhd⟩ : ∃ hd, hs0[e.1.toNat * 1]? = some hd := ⟨_, List.getElem?_eq_getElem (by omega)⟩
      have hkid : (ls)[e.1.toNat]? = some (ab (tn (es.take k)) e.1.toNat) := by rw [← hls]; exact arcs_get (by omega)
      refine c_take 2 e.1.toNat (by exact rfl) (kids_get (by simpa using hhd) hkid) ?_
      refine p_begin [(0, true), (1, true), (2, true), (3, true), (4, true), (5, true), (6, true), (8, true), (9, true), (10, true), (11, true), .rd 7 12, (13, false), (14, true), (15, false)] [boxHP b 37 (eV e)] (by kernel_rfl) ?_
      repeat' first
        | (refine p_at (by exact rfl) ?_
           first
            | refine t_move (by exact rfl) (by exact rfl) (by exact fun _ h => h.pick [1] (by exact rfl)) ?_ | refine t_fa (by exact rfl) (by exact rfl) (by exact fun _ h => h.pick [1] (by exact rfl)) ?_ | refine t_ld_box (by exact rfl) (by exact rfl) (by exact .head _) (by exact rfl) (by exact fun _ h => h.pick [1] (by exact rfl)) ?_ | refine t_idxi (by exact rfl) (by exact rfl) (by exact rfl) (by assumption) (by first | assumption | omega) (by exact fun _ h => h.pick [1] (by exact rfl)) ?_)
      refine p_buildt (cs := [.int .i64 e.2.1, .int .i64 (k : Int)]) [(0, .int .i64 e.2.1, [.int .i64 e.2.1]), (1, .int .i64 (k : Int), [.int .i64 (k : Int)])] (by exact rfl) (by exact rfl) (by exact rfl) (by simp [Value.cells]) ?_ (by exact fun _ h => h.pick [1] (by exact rfl)) ?_
      · exact rfl
      refine p_rd ?_ ?_
      all_goals
        repeat' first
          | (refine p_at (by exact rfl) ?_
             first
              | refine r_ld_row (by exact rfl) (by exact rfl) (by exact .tail _ (.tail _ (.head _))) (by assumption) (by exact fun _ h => h.pick [1] (by exact rfl)) ?_)
        refine p_mk [.agg #[.int .i64 e.2.1, .int .i64 (k : Int)]] (by exact rfl) rfl (by exact rfl) rfl ?_ ?_ (by simp) (fun w A h => h.pick [2] (by exact rfl)) (fun sx hsx => ?_)
        · simp [Value.cells]
        · simp
        repeat' first
          | (refine p_at (by exact rfl) ?_
             first
              | refine r_ld_row (by exact rfl) (by exact rfl) (by exact .tail _ (.tail _ (.tail _ (.head _)))) (by assumption) (by exact fun _ h => h.pick [2] (by exact rfl)) ?_)
        refine p_append_row (j := 1) (by exact rfl) (by exact rfl) (by exact rfl) (by exact rfl) (by exact rfl) (by exact .head _) (by exact rfl) (by simp [Value.cells, Value.oneCell']) ?_ (fun w v h => h.pick [2] (by exact rfl)) (fun vk hvk => ?_)
        · have := hb e.1.toNat
          simp only [List.length_cons, List.length_nil]
          omega
        repeat' first
          | (refine p_at (by exact rfl) ?_
             first
              | refine t_idxi (by exact rfl) (by exact rfl) (by exact rfl) (by assumption) (by first | assumption | omega) (by exact fun _ h => h.pick [2] (by exact rfl)) ?_)
        refine p_st_row (j := 3) (by exact rfl) (by exact rfl) (by exact rfl) (by exact rfl) hvk.one (by omega) (fun w h => h.pick [2] (by exact rfl)) ?_
        repeat' first
          | refine p_nil ?_
        refine c_pick [1, 1, 1, 1] (by exact rfl) ?_
        have e1 : rowHP vk 127 2 ((ab (tn (es.take k)) e.1.toNat).length + 1) (aV (ab (tn (es.take k)) e.1.toNat) ++ [Value.int .i64 e.2.1, Value.int .i64 (k : Int)]) = rowA vk ((ab (tn (es.take k)) e.1.toNat) ++ [(e.2.1.toNat, k)]) := by
          rw [show (e.2.1 : Int) = ((e.2.1.toNat : Nat) : Int) from by omega]
          simp [rowA, aV, List.flatMap_append]
        refine c_give 2 e.1.toNat (by exact rfl) (by simp [kids, hl0, ← hls, arcsL]; omega) ?_
        refine cut_end (hs0.set e.1.toNat vk) [0, 0, 0] ?_ ⟨rfl, rfl, rfl, rfl, rfl, rfl, trivial⟩ (by simpa using hl0)
        rw [← kids_set (x := empHP), ← e1, Nat.mul_one]
        rfl
    repeat' first
      | refine k_then ?_
    refine c_cut (fun hs1 : List Value => hs1.length = n.toNat) (fun _ => [(4, .int .i64 (k : Int)), (5, .pointer (some ⟨b, 0, none⟩)), (3, vo), (10, v), (11, .int .i64 (es.length : Int)), (12, .int .i64 (k : Int))]) (fun hs1 => [boxHP b 37 (eV e), rowHP vo 125 1 n.toNat hs1, starHP (kids rowA hs1 ((ls.set e.1.toNat ((ab (tn (es.take k)) e.1.toNat) ++ [(e.2.1.toNat, k)])).set e.2.1.toNat ((ab (tn (es.take k)) e.2.1.toNat) ++ [(e.1.toNat, k)])))]) ?_ fun hs2 hl2 => ?_
    · obtain ⟨hd, hhd⟩ : ∃ hd, hs1[e.2.1.toNat * 1]? = some hd := ⟨_, List.getElem?_eq_getElem (by omega)⟩
      have hkid : (ls.set e.1.toNat ((ab (tn (es.take k)) e.1.toNat) ++ [(e.2.1.toNat, k)]))[e.2.1.toNat]? = some (ab (tn (es.take k)) e.2.1.toNat) := by rw [List.getElem?_set_ne (by omega), ← hls]; exact arcs_get (by omega)
      refine c_take 2 e.2.1.toNat (by exact rfl) (kids_get (by simpa using hhd) hkid) ?_
      refine p_begin [(0, true), (1, true), (2, true), (3, true), (4, true), (5, true), (6, true), (8, true), (9, true), (10, true), (11, true), .rd 7 12, (13, false), (14, true), (15, false)] [boxHP b 37 (eV e)] (by kernel_rfl) ?_
      repeat' first
        | (refine p_at (by exact rfl) ?_
           first
            | refine t_move (by exact rfl) (by exact rfl) (by exact fun _ h => h.pick [1] (by exact rfl)) ?_ | refine t_fa (by exact rfl) (by exact rfl) (by exact fun _ h => h.pick [1] (by exact rfl)) ?_ | refine t_ld_box (by exact rfl) (by exact rfl) (by exact .head _) (by exact rfl) (by exact fun _ h => h.pick [1] (by exact rfl)) ?_ | refine t_idxi (by exact rfl) (by exact rfl) (by exact rfl) (by assumption) (by first | assumption | omega) (by exact fun _ h => h.pick [1] (by exact rfl)) ?_)
      refine p_buildt (cs := [.int .i64 e.1, .int .i64 (k : Int)]) [(0, .int .i64 e.1, [.int .i64 e.1]), (1, .int .i64 (k : Int), [.int .i64 (k : Int)])] (by exact rfl) (by exact rfl) (by exact rfl) (by simp [Value.cells]) ?_ (by exact fun _ h => h.pick [1] (by exact rfl)) ?_
      · exact rfl
      refine p_rd ?_ ?_
      all_goals
        repeat' first
          | (refine p_at (by exact rfl) ?_
             first
              | refine r_ld_row (by exact rfl) (by exact rfl) (by exact .tail _ (.tail _ (.head _))) (by assumption) (by exact fun _ h => h.pick [1] (by exact rfl)) ?_)
        refine p_mk [.agg #[.int .i64 e.1, .int .i64 (k : Int)]] (by exact rfl) rfl (by exact rfl) rfl ?_ ?_ (by simp) (fun w A h => h.pick [2] (by exact rfl)) (fun sx hsx => ?_)
        · simp [Value.cells]
        · simp
        repeat' first
          | (refine p_at (by exact rfl) ?_
             first
              | refine r_ld_row (by exact rfl) (by exact rfl) (by exact .tail _ (.tail _ (.tail _ (.head _)))) (by assumption) (by exact fun _ h => h.pick [2] (by exact rfl)) ?_)
        refine p_append_row (j := 1) (by exact rfl) (by exact rfl) (by exact rfl) (by exact rfl) (by exact rfl) (by exact .head _) (by exact rfl) (by simp [Value.cells, Value.oneCell']) ?_ (fun w v h => h.pick [2] (by exact rfl)) (fun vk hvk => ?_)
        · have := hb e.2.1.toNat
          simp only [List.length_cons, List.length_nil]
          omega
        repeat' first
          | (refine p_at (by exact rfl) ?_
             first
              | refine t_idxi (by exact rfl) (by exact rfl) (by exact rfl) (by assumption) (by first | assumption | omega) (by exact fun _ h => h.pick [2] (by exact rfl)) ?_)
        refine p_st_row (j := 3) (by exact rfl) (by exact rfl) (by exact rfl) (by exact rfl) hvk.one (by omega) (fun w h => h.pick [2] (by exact rfl)) ?_
        repeat' first
          | refine p_nil ?_
        refine c_pick [1, 1, 1, 1] (by exact rfl) ?_
        have e1 : rowHP vk 127 2 ((ab (tn (es.take k)) e.2.1.toNat).length + 1) (aV (ab (tn (es.take k)) e.2.1.toNat) ++ [Value.int .i64 e.1, Value.int .i64 (k : Int)]) = rowA vk ((ab (tn (es.take k)) e.2.1.toNat) ++ [(e.1.toNat, k)]) := by
          rw [show (e.1 : Int) = ((e.1.toNat : Nat) : Int) from by omega]
          simp [rowA, aV, List.flatMap_append]
        refine c_give 2 e.2.1.toNat (by exact rfl) (by simp [kids, hl1, ← hls, arcsL]; omega) ?_
        refine cut_end (hs1.set e.2.1.toNat vk) [0, 0, 0] ?_ ⟨rfl, rfl, rfl, rfl, rfl, rfl, trivial⟩ (by simpa using hl1)
        rw [← kids_set (x := empHP), ← e1, Nat.mul_one]
        rfl
    repeat' first
      | refine k_then ?_ | refine c_region ?_ | refine s_nil ?_ | refine s_move (by exact rfl) (by exact rfl) ?_ | refine s_add (by exact rfl) (by exact rfl) (by exact rfl) (by omega) ?_ | refine k_blk ?_
    refine c_round (k + 1, hs2) [1, 1] (by rw [hsn]; rfl) (by exact ⟨rfl, rfl, rfl, rfl, trivial⟩) ⟨by omega, hl2⟩ (by dsimp only; omega)
  · repeat' first
      | refine k_then ?_ | refine c_seq ?_ | refine c_region ?_ | refine s_nil ?_ | refine s_move (by exact rfl) (by exact rfl) ?_ | refine s_assign (by exact rfl) (by exact rfl) ?_ | refine s_lss (by exact rfl) (by exact rfl) (by exact rfl) ?_ | refine c_exit ?_ | refine c_ret ?_ | refine k_then_exit ?_ | refine k_blk_eq ?_ | (refine c_cond_p (by exact rfl) (fun h => ?_) (fun h => ?_) <;> try (exfalso; omega))
    obtain rfl : k = es.length := by omega
    refine ret1 [0, 0] rfl rfl rfl ⟨hs0, hl0, ?_⟩
    rw [List.take_length]
end Go.Proofs.YtpajjnkmaebhcabGreat
end
section
namespace Go.Sl
open Go Go.RowKit
theorem aV_at {l : List (Nat × Nat)} {j : Nat} {a : Nat × Nat} (h : l[j]? = some a) : ((aV l).drop (j * 2)).take 2 = [.int .i64 (a.1 : Int), .int .i64 (a.2 : Int)] := by
  induction l generalizing j with
  | nil => simp at h
  | cons x l ih =>
    cases j with
    | zero =>
      obtain rfl : x = a := by simpa using h
      rfl
    | succ j =>
      have := ih (j := j) (by simpa using h)
      rw [show (j + 1) * 2 = j * 2 + 2 from by omega]
      exact this
end Go.Sl
namespace Go.Proofs.YtpajjnkmaebhcabGreat
open Go.RowKit Go.Sl Fil
set_option maxRecDepth 100000
set_option maxHeartbeats 8000000
set_option linter.unusedVariables false
set_option linter.unusedSimpArgs false
attribute [local irreducible] Code.wp wpList bodyPost wpQuiet Exit.then Exit.inBlock Post wpAnyH wpOp
theorem Components_ok (n : Int) (v : Value) (es : List E) (w : World) (hs : Shp v es.length) (hr : RO w No v (esV es)) (hR : RightG n es) :
    Calls Tryz.prog 72 #[.agg #[.int .i64 n, v]] w (Post w No fun r L' => ∃ (met : List Bool) (out : List Nat) (lab : Nat → Nat) (hr : List Value), Bfs n.toNat (nb (tn es)) n.toNat met out lab [] ∧ hr.length = (compsL n.toNat n.toNat met lab).length ∧ L' = [rowHP r 28 1 (compsL n.toNat n.toNat met lab).length hr, starHP (kids rowN hr (compsL n.toNat n.toNat met lab))]) := by
  have hR0 := right_iff.2 hR
  have hm : es.length < 4611686018427387904 := by have := hR.many; omega
  have hlo := hR.lo
  have hhi := hR.hi
  have hA := hR.good.adj
  refine enter0 (vs := [_]) Tryz.func72 rfl Tryz.ntmps72 rfl ?_
  repeat' first
    | refine k_then ?_ | refine c_seq ?_ | refine c_region ?_ | refine s_nil ?_ | refine s_assign (by exact rfl) (by exact rfl) ?_ | refine s_ldk_box (by exact rfl) (by exact rfl) (by exact .head _) (by exact rfl) (by exact rfl) ?_ | refine o_box (by exact rfl) (by exact rfl) (fun b => ?_)
  refine s_call (by exact rfl) (by exact rfl) (fun w h => Right_ok n v es w hs (ro_old h hr) hm) ?_
  repeat' first
    | refine k_then ?_ | refine c_seq ?_ | refine c_region ?_ | refine s_nil ?_ | refine s_neq (by exact rfl) (by exact rfl) (by exact rfl) ?_ | refine s_ldk_box (by exact rfl) (by exact rfl) (by exact .head _) (by exact rfl) (by exact rfl) ?_ | refine c_skip ?_ | (refine c_cond_p (by exact rfl) (fun h => ?_) (fun h => ?_) <;> try (exfalso; omega))
  refine o_call (by exact rfl) (by exact rfl) (fun w h => arcs_ok n v es w hs (ro_old h hr) hR) ?_
  rintro va _ ⟨ha, hla, rfl⟩
  refine know_row (v := va) (.head _) fun hva _ => ?_
  repeat' first
    | refine k_then ?_ | refine c_seq ?_ | refine c_region ?_ | refine s_nil ?_ | refine s_assign (by exact rfl) (by exact rfl) ?_ | refine s_fa (by exact rfl) (by exact rfl) ?_ | refine s_ld_box (by exact rfl) (by exact rfl) (by exact .tail _ (.tail _ (.head _))) (by exact rfl) ?_
  refine o_make (by exact rfl) (by exact rfl) (by exact rfl) (by omega) (by omega) fun vm hvm => ?_
  rw [made1 (z := .bool false) rfl]
  repeat' first
    | refine k_then ?_ | refine c_seq ?_ | refine c_region ?_ | refine s_nil ?_ | refine s_move (by exact rfl) (by exact rfl) ?_ | refine s_assign (by exact rfl) (by exact rfl) ?_ | refine s_fa (by exact rfl) (by exact rfl) ?_ | refine s_ld_box (by exact rfl) (by exact rfl) (by exact .tail _ (.tail _ (.tail _ (.head _)))) (by exact rfl) ?_ | refine c_block ?_
  have hal : ∀ x, (ab (tn es) x).length ≤ 4194304 := fun x => by
    have h1 := ab_length (tn es) x
    have h2 := hR.many
    rw [tn_length] at h1
    omega
  generalize hl : tn es = l at *
  generalize hN : n.toNat = N at *
  have hnN : n = (N : Int) := by omega
  subst hnN
  refine c_nil 28 1 ?_
  refine c_star0 ?_
  refine c_loop (fun x : Nat × List Bool × List Nat × (Nat → Nat) × Value × List Value => x.1 ≤ N ∧ Bfs N (nb l) x.1 x.2.1 x.2.2.1 x.2.2.2.1 [] ∧ x.2.2.2.2.2.length = (compsL N x.1 x.2.1 x.2.2.2.1).length ∧ ∀ u, x.2.1.getD u false = true → x.2.2.2.1 u < x.1) (fun x => [(2, x.2.2.2.2.1), (3, va), (4, vm), (19, .int .i64 (N : Int)), (20, .int .i64 (x.1 : Int))])
    (fun x => [rowHP vm 4 1 N (bV x.2.1), rowHP x.2.2.2.2.1 28 1 (compsL N x.1 x.2.1 x.2.2.2.1).length x.2.2.2.2.2, starHP (kids rowN x.2.2.2.2.2 (compsL N x.1 x.2.1 x.2.2.2.1)), rowHP va 125 1 N ha, starHP (kids rowA ha (arcsL N l))]) (fun x => N - x.1) (0, List.replicate N false, List.replicate N 0, (fun _ => 0), .slice none 0 0, []) [2, 1, 0, 0, 0] ⟨Nat.zero_le _, Bfs.init N (nb l), rfl, ?_⟩ ?_ ⟨rfl, rfl, rfl, rfl, rfl, trivial⟩ ?_
  · intro u hu
    simp only [List.getD_eq_getElem?_getD, List.getElem?_replicate] at hu
    split at hu <;> simp at hu
  · simp only [bV, List.map_replicate]
    rfl
  rintro ⟨i, met, out, lab, vr, hr0⟩ ⟨hi, hB, hhr, hLt⟩
  dsimp only at hi hB hhr hLt ⊢
  by_cases hlt : i < N
  · have hmi := bV_get (l := met) (k := i) (by rw [hB.lm]; exact hlt)
    cases hmet : met.getD i false
    · rw [hmet] at hmi
      repeat' first
        | refine k_then ?_ | refine c_seq ?_ | refine c_region ?_ | refine s_nil ?_ | refine s_move (by exact rfl) (by exact rfl) ?_ | refine s_assign (by exact rfl) (by exact rfl) ?_ | refine s_lss (by exact rfl) (by exact rfl) (by exact rfl) ?_ | refine s_idx (by exact rfl) (by exact rfl) (by exact rfl) (by assumption) (by first | assumption | omega) ?_ | refine s_ld_row (by exact rfl) (by exact rfl) (by exact .head _) (by assumption) ?_ | refine c_block ?_ | refine c_skip ?_ | (refine c_cond_p (by exact rfl) (fun h => ?_) (fun h => ?_) <;> try (exfalso; omega)) | refine c_cond_f (by exact rfl) ?_
      refine o_st_row (i := 0) (by exact rfl) (by exact rfl) (by exact rfl) rfl (by omega) ?_
      repeat' first
        | refine k_then ?_ | refine c_seq ?_ | refine c_region ?_ | refine s_nil ?_ | refine s_move (by exact rfl) (by exact rfl) ?_
      rw [bV_set]
      refine o_mk [.int .i64 (i : Int)] (by exact rfl) (by exact rfl) rfl ?_ ?_ (by simp) fun vl0 hvl0 => ?_
      · simp [Value.cells]
      · simp
      repeat' first
        | refine k_then ?_ | refine c_seq ?_ | refine c_region ?_ | refine s_nil ?_ | refine s_assign (by exact rfl) (by exact rfl) ?_ | refine c_block ?_
      have hBs := hB.start hlt hmet
      have hP := Part.start hlt hB.lm hLt
      have hC := comps_step (N := N) (lab := lab) hmet hB.below
      generalize hcs : compsL N i met lab = cs at *
      clear hcs
      refine c_loop (fun x : Value × List Nat × Nat × List Bool × List Nat × (Nat → Nat) => x.2.2.1 ≤ x.2.1.length ∧ Bfs N (nb l) i x.2.2.2.1 x.2.2.2.2.1 x.2.2.2.2.2 (x.2.1.drop x.2.2.1) ∧ Part N i x.2.2.2.1 x.2.2.2.2.2 x.2.1 ∧ compsL N i x.2.2.2.1 x.2.2.2.2.2 = cs ∧ x.2.2.2.1.getD i false = true ∧ x.2.2.2.2.2 i = i)
        (fun x => [(2, vr), (3, va), (4, vm), (5, .int .i64 (i : Int)), (6, x.1), (7, .int .i64 (x.2.2.1 : Int)), (19, .int .i64 (N : Int)), (20, .int .i64 (i : Int))])
        (fun x => [rowHP x.1 3 1 x.2.1.length (nV x.2.1), rowHP vm 4 1 N (bV x.2.2.2.1), rowHP vr 28 1 cs.length hr0, starHP (kids rowN hr0 cs), rowHP va 125 1 N ha, starHP (kids rowA ha (arcsL N l))])
        (fun x => 2 * unmet x.2.2.2.1 + (x.2.1.length - x.2.2.1)) (vl0, [i], 0, met.set i true, out, fun x => if x = i then i else lab x) [0, 0, 0, 0, 0, 0] ⟨Nat.zero_le _, hBs, hP, hC, hBs.line_met i (by simp), by simp⟩ (by exact rfl) ⟨rfl, rfl, rfl, rfl, rfl, rfl, rfl, rfl, trivial⟩ ?_
      clear hBs hP hC hmi hmet hB hvl0 hLt
      clear vl0 out lab met
      rintro ⟨vp, part, at0, met, out, lab⟩ ⟨hat, hB, hP, hC, hmi, hli⟩
      dsimp only at hat hB hP hC hmi hli ⊢
      refine know_row (v := vp) (.head _) fun hvp _ => ?_
      have hpl := hP.length_le
      by_cases hal0 : at0 < part.length
      · obtain ⟨x, hx⟩ : ∃ x, part[at0]? = some x := ⟨_, List.getElem?_eq_getElem hal0⟩
        have hdrop : part.drop at0 = x :: part.drop (at0 + 1) := by
          obtain ⟨h1, h2⟩ := List.getElem?_eq_some_iff.1 hx
          rw [List.drop_eq_getElem_cons h1, h2]
        rw [hdrop] at hB
        have hxN := hB.line_lt x (by simp)
        have hAx := hal x
        have hx0 : (nV part)[at0 * 1]? = some (.int .i64 (x : Int)) := by simp [nV, hx]
        obtain ⟨hd, hhd⟩ : ∃ hd, ha[x * 1]? = some hd := ⟨_, List.getElem?_eq_getElem (by omega)⟩
        have hK : rowHP hd 127 2 (ab l x).length (aV (ab l x)) ∈ kids rowA ha (arcsL N l) := kids_mem (f := rowA) (k := x) (by simpa using hhd) (arcs_get hxN)
        refine know_kid (Ks := kids rowA ha (arcsL N l)) (.tail _ (.tail _ (.tail _ (.tail _ (.tail _ (.head _)))))) hK fun hhs _ => ?_
        repeat' first
          | refine k_then ?_ | refine c_seq ?_ | refine c_region ?_ | refine s_nil ?_ | refine s_move (by exact rfl) (by exact rfl) ?_ | refine s_lss (by exact rfl) (by exact rfl) (by exact rfl) ?_ | refine s_len (by exact rfl) (by exact rfl) (by assumption) ?_ | refine s_idx (by exact rfl) (by exact rfl) (by exact rfl) (by assumption) (by first | assumption | omega) ?_ | refine s_ld_row (by exact rfl) (by exact rfl) (by first | exact .head _ | exact .tail _ (.tail _ (.tail _ (.tail _ (.head _))))) (by assumption) ?_ | refine c_block ?_ | refine c_skip ?_ | (refine c_cond_p (by exact rfl) (fun h => ?_) (fun h => ?_) <;> try (exfalso; omega))
        refine c_loop (fun y : Nat × Value × List Nat × List Bool × List Nat × (Nat → Nat) => y.1 ≤ (ab l x).length ∧ Bfs N (nb l) i y.2.2.2.1 y.2.2.2.2.1 y.2.2.2.2.2 (x :: y.2.2.1.drop (at0 + 1)) ∧ Seen (nb l) i y.2.2.2.1 y.2.2.2.2.1 y.2.2.2.2.2 x y.1 ∧ Part N i y.2.2.2.1 y.2.2.2.2.2 y.2.2.1 ∧ compsL N i y.2.2.2.1 y.2.2.2.2.2 = cs ∧ y.2.2.2.1.getD i false = true ∧ y.2.2.2.2.2 i = i ∧ at0 < y.2.2.1.length ∧ 2 * unmet y.2.2.2.1 + y.2.2.1.length ≤ 2 * unmet met + part.length)
          (fun y => [(2, vr), (3, va), (4, vm), (5, .int .i64 (i : Int)), (6, y.2.1), (7, .int .i64 (at0 : Int)), (19, .int .i64 (N : Int)), (20, .int .i64 (i : Int)), (44, hd), (45, .int .i64 ((ab l x).length : Int)), (46, .int .i64 (y.1 : Int))])
          (fun y => [rowHP y.2.1 3 1 y.2.2.1.length (nV y.2.2.1), rowHP vm 4 1 N (bV y.2.2.2.1), rowHP vr 28 1 cs.length hr0, starHP (kids rowN hr0 cs), rowHP va 125 1 N ha, starHP (kids rowA ha (arcsL N l))])
          (fun y => (ab l x).length - y.1) (0, vp, part, met, out, lab) [0, 0, 0, 0, 0, 0] ⟨Nat.zero_le _, hB, fun u hu => by simp at hu, hP, hC, hmi, hli, hal0, Nat.le_refl _⟩ (by exact rfl) ⟨rfl, rfl, rfl, rfl, rfl, rfl, rfl, rfl, rfl, rfl, rfl, trivial⟩ ?_
        clear hB hP hC hx0 hvp hmi hli
        rintro ⟨j, vq, part2, met2, out2, lab2⟩ ⟨hj, hB, hS, hP, hC, hmi, hli, hat2, hM2⟩
        dsimp only at hj hB hS hP hC hmi hli hat2 hM2 ⊢
        refine know_row (v := vq) (.head _) fun hvq _ => ?_
        have hpl2 := hP.length_le
        by_cases hjl : j < (ab l x).length
        · obtain ⟨a, hja⟩ : ∃ a, (ab l x)[j]? = some a := ⟨_, List.getElem?_eq_getElem hjl⟩
          have hu : (nb l x)[j]? = some a.1 := by rw [← ab_fst, List.getElem?_map, hja]; rfl
          have hun := hA.lt x hxN a.1 (List.mem_of_getElem? hu)
          have hju := aV_at hja
          have hmu := bV_get (l := met2) (k := a.1) (by rw [hB.lm]; exact hun)
          cases hmet : met2.getD a.1 false
          · rw [hmet] at hmu
            have hum := unmet_set (by rw [hB.lm]; exact hun) hmet
            obtain ⟨hB2, hS2⟩ := hB.new hA hS hu hmet
            have hP2 := hP.new hun hB.lm hmet
            have hC2 := comps_step (N := N) (lab := lab2) hmet hB.below
            repeat' first
              | refine k_then ?_ | refine c_seq ?_ | refine c_region ?_ | refine s_nil ?_ | refine s_lss (by exact rfl) (by exact rfl) (by exact rfl) ?_ | refine s_idx (by exact rfl) (by exact rfl) (by exact rfl) (by assumption) (by first | assumption | omega) ?_ | refine s_ldk_kid (by exact rfl) (by exact rfl) (by assumption) (by exact .tail _ (.tail _ (.tail _ (.tail _ (.tail _ (.head _)))))) (by decide) (by assumption) (by exact rfl) ?_ | refine o_alloc (by exact rfl) (fun b => ?_) | refine c_block ?_ | refine c_skip ?_ | (refine c_cond_p (by exact rfl) (fun h => ?_) (fun h => ?_) <;> try (exfalso; omega))
            refine o_stk_box (i := 0) (us := [.int .i64 (a.1 : Int), .int .i64 (a.2 : Int)]) (by exact rfl) (by exact rfl) (by exact rfl) (by exact rfl) (by exact rfl) (by simp [Value.oneCell']) (by simp [Value.cells]) ?_
            repeat' first
              | refine k_then ?_ | refine c_seq ?_ | refine c_region ?_ | refine s_nil ?_ | refine s_move (by exact rfl) (by exact rfl) ?_ | refine s_fa (by exact rfl) (by exact rfl) ?_ | refine s_ld_box (by exact rfl) (by exact rfl) (by exact .head _) (by exact rfl) ?_ | refine s_not (by exact rfl) (by exact rfl) ?_ | refine s_idx (by exact rfl) (by exact rfl) (by exact rfl) (by assumption) (by first | assumption | omega) ?_ | refine s_ld_row (by exact rfl) (by exact rfl) (by exact .tail _ (.tail _ (.head _))) (by assumption) ?_ | refine c_cond_t (by exact rfl) ?_
            refine o_st_row (i := 2) (by exact rfl) (by exact rfl) (by exact rfl) rfl (by omega) ?_
            repeat' first
              | refine k_then ?_ | refine c_region ?_ | refine s_nil ?_ | refine s_move (by exact rfl) (by exact rfl) ?_ | refine s_fa (by exact rfl) (by exact rfl) ?_ | refine s_ld_box (by exact rfl) (by exact rfl) (by exact .head _) (by exact rfl) ?_
            rw [bV_set]
            refine o_mk [.int .i64 (a.1 : Int)] (by exact rfl) (by exact rfl) rfl ?_ ?_ (by simp) fun vt hvt => ?_
            · simp [Value.cells]
            · simp
            skip
            refine o_append_row (i := 2) (by exact rfl) (by exact rfl) (by exact rfl) (by exact rfl) (by exact .head _) (by exact rfl) (by simp [Value.cells, Value.oneCell']) ?_ fun vl2 hvl2 => ?_
            · omega
            repeat' first
              | refine k_then ?_ | refine c_region ?_ | refine s_nil ?_ | refine s_move (by exact rfl) (by exact rfl) ?_ | refine s_assign (by exact rfl) (by exact rfl) ?_ | refine s_add (by exact rfl) (by exact rfl) (by exact rfl) (by omega) ?_ | refine k_blk ?_
            refine c_round (j + 1, vl2, part2 ++ [a.1], met2.set a.1 true, out2.set a.1 (out2.getD x 0 + 1), fun z => if z = a.1 then i else lab2 z) [2, 2, 2, 2, 2, 2] ?_ (by exact ⟨rfl, rfl, rfl, rfl, rfl, rfl, rfl, rfl, rfl, rfl, rfl, trivial⟩) ⟨by omega, ?_, hS2, hP2, by rw [hC2]; exact hC, ?_, ?_, ?_, ?_⟩ (by dsimp only; omega)
            · show pick [_, _, _, _, _, _, _, _] [2, 2, 2, 2, 2, 2] = some [_, _, _, _, _, _]
              have e1 : rowHP vl2 3 1 (part2.length + 1) (nV part2 ++ [Value.int .i64 (a.1 : Int)]) = rowHP vl2 3 1 (part2 ++ [a.1]).length (nV (part2 ++ [a.1])) := by simp [nV]
              rw [← e1]
              rfl
            · dsimp only
              rw [List.drop_append_of_le_length (by omega)]
              exact hB2
            · dsimp only
              rw [getD_set]
              split
              · rfl
              · exact hmi
            · dsimp only
              split
              · rfl
              · exact hli
            · simp; omega
            · simp only [List.length_append, List.length_singleton]
              omega
          · rw [hmet] at hmu
            repeat' first
              | refine k_then ?_ | refine c_seq ?_ | refine c_region ?_ | refine s_nil ?_ | refine s_lss (by exact rfl) (by exact rfl) (by exact rfl) ?_ | refine s_idx (by exact rfl) (by exact rfl) (by exact rfl) (by assumption) (by first | assumption | omega) ?_ | refine s_ldk_kid (by exact rfl) (by exact rfl) (by assumption) (by exact .tail _ (.tail _ (.tail _ (.tail _ (.tail _ (.head _)))))) (by decide) (by assumption) (by exact rfl) ?_ | refine o_alloc (by exact rfl) (fun b => ?_) | refine c_block ?_ | refine c_skip ?_ | (refine c_cond_p (by exact rfl) (fun h => ?_) (fun h => ?_) <;> try (exfalso; omega))
            refine o_stk_box (i := 0) (us := [.int .i64 (a.1 : Int), .int .i64 (a.2 : Int)]) (by exact rfl) (by exact rfl) (by exact rfl) (by exact rfl) (by exact rfl) (by simp [Value.oneCell']) (by simp [Value.cells]) ?_
            repeat' first
              | refine k_then ?_ | refine c_seq ?_ | refine c_region ?_ | refine s_nil ?_ | refine s_move (by exact rfl) (by exact rfl) ?_ | refine s_fa (by exact rfl) (by exact rfl) ?_ | refine s_ld_box (by exact rfl) (by exact rfl) (by exact .head _) (by exact rfl) ?_ | refine s_add (by exact rfl) (by exact rfl) (by exact rfl) (by omega) ?_ | refine s_not (by exact rfl) (by exact rfl) ?_ | refine s_idx (by exact rfl) (by exact rfl) (by exact rfl) (by assumption) (by first | assumption | omega) ?_ | refine s_ld_row (by exact rfl) (by exact rfl) (by exact .tail _ (.tail _ (.head _))) (by assumption) ?_ | refine c_skip ?_ | refine k_blk ?_ | refine c_cond_f (by exact rfl) ?_
            refine c_round (j + 1, vq, part2, met2, out2, lab2) [1, 1, 1, 1, 1, 1] (by exact rfl) (by exact ⟨rfl, rfl, rfl, rfl, rfl, rfl, rfl, rfl, rfl, rfl, rfl, trivial⟩) ⟨by omega, hB, hB.old hA hS hu hmet, hP, hC, hmi, hli, hat2, hM2⟩ (by dsimp only; omega)
        · obtain rfl : j = (ab l x).length := by omega
          repeat' first
            | refine k_then ?_ | refine c_seq ?_ | refine c_region ?_ | refine s_nil ?_ | refine s_move (by exact rfl) (by exact rfl) ?_ | refine s_assign (by exact rfl) (by exact rfl) ?_ | refine s_lss (by exact rfl) (by exact rfl) (by exact rfl) ?_ | refine s_add (by exact rfl) (by exact rfl) (by exact rfl) (by omega) ?_ | refine c_exit ?_ | refine k_then_exit ?_ | refine k_blk ?_ | refine k_blk_eq ?_ | (refine c_cond_p (by exact rfl) (fun h => ?_) (fun h => ?_) <;> try (exfalso; omega))
          have hnl : (nb l x).length = (ab l x).length := by rw [← ab_fst, List.length_map]
          refine c_round (vq, part2, at0 + 1, met2, out2, lab2) [0, 0, 0, 0, 0, 0] (by exact rfl) (by exact ⟨rfl, rfl, rfl, rfl, rfl, rfl, rfl, rfl, trivial⟩) ⟨by dsimp only; omega, hB.pop (by rw [hnl]; exact hS), hP, hC, hmi, hli⟩ (by dsimp only; omega)
      · repeat' first
          | refine k_then ?_ | refine c_seq ?_ | refine c_region ?_ | refine s_nil ?_ | refine s_move (by exact rfl) (by exact rfl) ?_ | refine s_lss (by exact rfl) (by exact rfl) (by exact rfl) ?_ | refine s_len (by exact rfl) (by exact rfl) (by assumption) ?_ | refine c_exit ?_ | refine k_then_exit ?_ | refine k_blk_eq ?_ | (refine c_cond_p (by exact rfl) (fun h => ?_) (fun h => ?_) <;> try (exfalso; omega))
        have hdn : part.drop at0 = [] := List.drop_eq_nil_of_le (by omega)
        rw [hdn] at hB
        have hca := comps_add (N := N) hli hP.nodup hP.mem
        have hcl := compsL_length N i met lab
        rw [hC] at hca hcl
        refine s_lend [rowHP vp 3 1 part.length (nV part)] _ (by exact rfl) (by exact rfl) (by exact rfl) (fun w S h => nsort_row (sats_mem h.own (.head _)) (by omega)) ?_
        rintro _ _ ⟨rfl, rfl⟩
        repeat' first
          | refine k_then ?_ | refine c_region ?_ | refine s_nil ?_ | refine s_move (by exact rfl) (by exact rfl) ?_
        refine o_mk [vp] (by exact rfl) (by exact rfl) rfl ?_ ?_ (by simp) fun vt hvt => ?_
        · intro u hu
          obtain rfl : u = vp := by simpa using hu
          rw [← Array.length_toList, one_cells hvp.one]; rfl
        · simp
        rw [show ([vp].flatMap fun u => u.cells.toList) = [vp] from by simp [one_cells hvp.one]]
        skip
        refine o_append_row (i := 3) (by exact rfl) (by exact rfl) (by exact rfl) (by exact rfl) (by exact .head _) (by exact rfl) (by simp [hvp.one]) ?_ fun vr2 hvr2 => ?_
        · omega
        repeat' first
          | refine k_then ?_ | refine c_region ?_ | refine s_nil ?_ | refine s_move (by exact rfl) (by exact rfl) ?_ | refine s_assign (by exact rfl) (by exact rfl) ?_ | refine s_add (by exact rfl) (by exact rfl) (by exact rfl) (by omega) ?_ | refine k_blk ?_
        have e1 : rowHP vp 3 1 part.length (nV (part.mergeSort fun x y => decide (x ≤ y))) = rowN vp (part.mergeSort fun x y => decide (x ≤ y)) := by simp [rowN]
        refine c_pick [1, 1, 1, 1, 1, 1] (by exact rfl) ?_
        rw [e1]
        refine c_pushk 2 (by exact rfl) ?_
        refine c_round (i + 1, met, out, lab, vr2, hr0 ++ [vp]) [0, 0, 0, 0, 0] ?_ (by exact ⟨rfl, rfl, rfl, rfl, rfl, trivial⟩) ⟨by omega, hB.next hmi, ?_, fun u hu => by have := hP.le u hu; dsimp only; omega⟩ (by dsimp only; omega)
        · dsimp only
          rw [hca, kids_append hhr, List.length_append]
          rfl
        · dsimp only
          rw [hca, List.length_append, List.length_append, hhr]
          rfl
    · rw [hmet] at hmi
      repeat' first
        | refine k_then ?_ | refine c_seq ?_ | refine c_region ?_ | refine s_nil ?_ | refine s_move (by exact rfl) (by exact rfl) ?_ | refine s_assign (by exact rfl) (by exact rfl) ?_ | refine s_lss (by exact rfl) (by exact rfl) (by exact rfl) ?_ | refine s_add (by exact rfl) (by exact rfl) (by exact rfl) (by omega) ?_ | refine s_idx (by exact rfl) (by exact rfl) (by exact rfl) (by assumption) (by first | assumption | omega) ?_ | refine s_ld_row (by exact rfl) (by exact rfl) (by exact .head _) (by assumption) ?_ | refine c_block ?_ | refine c_skip ?_ | refine c_exit ?_ | refine k_then_exit ?_ | refine k_blk_eq ?_ | (refine c_cond_p (by exact rfl) (fun h => ?_) (fun h => ?_) <;> try (exfalso; omega)) | refine c_cond_t (by exact rfl) ?_
      have hne : lab i ≠ i := by have := hLt i hmet; omega
      have hcn := comps_next (N := N) (met := met) hne
      refine c_round (i + 1, met, out, lab, vr, hr0) [0, 0, 0, 0, 0] (by dsimp only; rw [hcn]; rfl) (by exact ⟨rfl, rfl, rfl, rfl, rfl, trivial⟩) ⟨by omega, hB.next hmet, by dsimp only; rw [hcn]; exact hhr, fun u hu => by have := hLt u hu; dsimp only; omega⟩ (by dsimp only; omega)
  · repeat' first
      | refine k_then ?_ | refine c_seq ?_ | refine c_region ?_ | refine s_nil ?_ | refine s_move (by exact rfl) (by exact rfl) ?_ | refine s_assign (by exact rfl) (by exact rfl) ?_ | refine s_lss (by exact rfl) (by exact rfl) (by exact rfl) ?_ | refine c_exit ?_ | refine c_ret ?_ | refine k_then_exit ?_ | refine k_blk_eq ?_ | (refine c_cond_p (by exact rfl) (fun h => ?_) (fun h => ?_) <;> try (exfalso; omega))
    obtain rfl : i = N := by omega
    refine ret1 [1, 1] rfl rfl rfl ⟨met, out, lab, hr0, hB, hhr, rfl⟩
end Go.Proofs.YtpajjnkmaebhcabGreat
end
section
set_option linter.unusedVariables false
namespace Fil
theorem getD_setN (l : List Nat) (i x j : Nat) : (l.set i x).getD j 0 = if i = j ∧ i < l.length then x else l.getD j 0 := by
  rw [List.getD_eq_getElem?_getD, List.getElem?_set, List.getD_eq_getElem?_getD]
  by_cases h : i = j
  · subst h
    rw [if_pos rfl]
    by_cases h2 : i < l.length
    · rw [if_pos h2, if_pos ⟨rfl, h2⟩]; rfl
    · rw [if_neg h2, if_neg (fun h => h2 h.2), List.getElem?_eq_none (by omega)]
  · rw [if_neg h, if_neg (fun h' => h h'.1)]
theorem flat_le {α : Type} : ∀ {C : List (List α)}, (∀ l ∈ C, l ≠ []) → C.length ≤ C.flatten.length
  | [], _ => Nat.le_refl _
  | l :: C, h => by
    have h1 := flat_le (C := C) fun l hl => h l (.tail _ hl)
    have h2 := List.length_pos_iff.2 (h l (.head _))
    rw [List.flatten_cons, List.length_append, List.length_cons]; omega
end Fil
namespace Go.Sl
open Go Go.RowKit Fil
theorem iV_set (l : List Int) (k : Nat) (x : Int) : (iV l).set (k * 1) (.int .i64 x) = iV (l.set k x) := by rw [Nat.mul_one, iV, iV, List.map_set]
end Go.Sl
namespace Go.Proofs.YtpajjnkmaebhcabGreat
open Go.RowKit Go.Sl Fil
set_option maxRecDepth 100000
set_option maxHeartbeats 8000000
set_option linter.unusedVariables false
set_option linter.unusedSimpArgs false
attribute [local irreducible] Code.wp wpList bodyPost wpQuiet Exit.then Exit.inBlock Post wpAnyH wpOp
theorem rotEuler_ok (n : Int) (v : Value) (es : List E) (vr : Value) (hr0 : List Value) (R : List (List Nat)) (w : World) (hs : Shp v es.length) (hr : RO w No v (esV es)) (hG : RightG n es) (hR : ROs w No vr hr0 R) (hRot : RotL n.toNat (tn es) R) :
    Calls Tryz.prog 60 #[.agg #[.int .i64 n, v], vr] w (Post w No fun r L' => ∃ (vo : Value) (o lab : Nat → Nat), Lev n.toNat (nb (tn es)) o lab ∧ r = .tuple #[vo, .int .i64 0] ∧ L' = [rowHP vo 3 1 (compsS n.toNat lab).length (iV (eulerL n.toNat (tn es) lab (facesR n.toNat (tn es) R)))]) := by
  have hsr := hR.shp
  have hrr := hR.ro
  have hlo := hG.lo
  have hhi := hG.hi
  have hmany := hG.many
  have hRl := hRot.len
  refine enter0 (vs := [_, _]) Tryz.func60 rfl Tryz.ntmps60 rfl ?_
  repeat' first
    | refine k_then ?_ | refine c_seq ?_ | refine c_region ?_ | refine s_nil ?_ | refine s_move (by exact rfl) (by exact rfl) ?_ | refine s_assign (by exact rfl) (by exact rfl) ?_ | refine s_ldk_box (by exact rfl) (by exact rfl) (by exact .head _) (by exact rfl) (by exact rfl) ?_ | refine o_box (by exact rfl) (by exact rfl) (fun b => ?_)
  refine o_call (by exact rfl) (by exact rfl) (fun w h => rotFaces_ok n v es vr hr0 R w hs (ro_old h hr) hG (ros_old h hR) hRot) ?_
  rintro _ _ ⟨vf, hf, rfl, hfl, rfl⟩
  repeat' first
    | refine k_then ?_ | refine c_seq ?_ | refine c_region ?_ | refine s_nil ?_ | refine s_move (by exact rfl) (by exact rfl) ?_ | refine s_assign (by exact rfl) (by exact rfl) ?_ | refine s_fa (by exact rfl) (by exact rfl) ?_ | refine s_ld_box (by exact rfl) (by exact rfl) (by exact .tail _ (.tail _ (.head _))) (by exact rfl) ?_ | refine s_neq (by exact rfl) (by exact rfl) (by exact rfl) ?_ | refine s_extract (by exact rfl) (by exact rfl) (by exact rfl) ?_ | refine c_skip ?_ | (refine c_cond_p (by exact rfl) (fun h => ?_) (fun h => ?_) <;> try (exfalso; omega))
  refine o_make (by exact rfl) (by exact rfl) (by exact rfl) (by omega) (by omega) fun vm hvm => ?_
  repeat' first
    | refine k_then ?_ | refine c_seq ?_ | refine c_region ?_ | refine s_nil ?_ | refine s_assign (by exact rfl) (by exact rfl) ?_ | refine s_ldk_box (by exact rfl) (by exact rfl) (by exact .tail _ (.tail _ (.tail _ (.head _)))) (by exact rfl) (by exact rfl) ?_
  refine o_call (by exact rfl) (by exact rfl) (fun w h => Components_ok n v es w hs (ro_old h hr) hG) ?_
  rintro vc _ ⟨met, bout, lab, hc, hB, hcl, rfl⟩
  have hLev := hB.lev
  rw [hB.comps] at hcl ⊢
  have hone : ∀ u, u < n.toNat → ∃ a c, (compsS n.toNat lab)[a]? = some c ∧ u ∈ c ∧ ∀ (b : Nat) x, (compsS n.toNat lab)[b]? = some x → (u ∈ x ↔ b = a) := fun u hu => comp_one hLev hu
  have hcN : (compsS n.toNat lab).length ≤ n.toNat := compsI_length _ _ lab
  have hcl2 : ∀ c ∈ compsS n.toNat lab, c.length ≤ n.toNat ∧ ∀ u ∈ c, u < n.toNat := fun c hc => by
    obtain ⟨r, h1, h2, rfl⟩ := comp_mem hc
    refine ⟨by have := List.length_filter_le (fun u => lab u == r) (List.range n.toNat); simpa using this, fun u hu => ?_⟩
    simpa using (List.mem_filter.1 hu).1
  have hdec := facesR_dec hG hRot
  have hFne : ∀ f ∈ facesR n.toNat (tn es) R, ∃ d t, f = d :: t ∧ d.1 < n.toNat := fun f hf => by
    cases f with
    | nil => exact absurd rfl (hdec.cy _ hf).1
    | cons d t => exact ⟨d, t, rfl, (dart_lt hG (hdec.perm.mem_iff.1 (List.mem_flatten.2 ⟨_, hf, .head _⟩))).1⟩
  have hFl : (facesR n.toNat (tn es) R).length ≤ 2 * es.length := by
    have h1 := flat_le (C := facesR n.toNat (tn es) R) fun f hf => (hdec.cy f hf).1
    have h2 := hdec.perm.length_eq
    rw [dartsAll_length hG] at h2
    omega
  generalize facesR n.toNat (tn es) R = Fs at *
  generalize hcs : compsS n.toNat lab = cs at *
  refine know_row (v := vc) (.head _) fun hvc _ => ?_
  refine know_row (v := vf) (by exact .tail _ (.tail _ (.tail _ (.head _)))) fun hvf _ => ?_
  repeat' first
    | refine k_then ?_ | refine c_seq ?_ | refine c_region ?_ | refine s_nil ?_ | refine s_move (by exact rfl) (by exact rfl) ?_ | refine s_assign (by exact rfl) (by exact rfl) ?_ | refine s_len (by exact rfl) (by exact rfl) (by assumption) ?_
  refine o_make (by exact rfl) (by exact rfl) (by exact rfl) (by omega) (by omega) fun vo hvo => ?_
  repeat' first
    | refine k_then ?_ | refine c_seq ?_ | refine c_region ?_ | refine s_nil ?_ | refine s_move (by exact rfl) (by exact rfl) ?_ | refine s_assign (by exact rfl) (by exact rfl) ?_ | refine s_len (by exact rfl) (by exact rfl) (by assumption) ?_ | refine c_block ?_
  generalize hN : n.toNat = N at *
  have hnN : n = (N : Int) := by omega
  refine c_loop (fun x : Nat × List Nat => x.1 ≤ cs.length ∧ x.2.length = N ∧ ∀ (a : Nat) c, cs[a]? = some c → a < x.1 → ∀ u ∈ c, x.2.getD u 0 = a)
    (fun x => [(2, .pointer (some ⟨b, 0, none⟩)), (6, vf), (8, vm), (9, vc), (10, vo), (36, vc), (37, .int .i64 (cs.length : Int)), (38, .int .i64 (x.1 : Int))])
    (fun x => [rowHP vo 3 1 cs.length (iV (baseL cs x.1)), rowHP vm 3 1 N (nV x.2), rowHP vc 28 1 cs.length hc, starHP (kids rowN hc cs), rowHP vf 101 1 Fs.length hf, starHP (kids rowD hf Fs), boxHP b 24 [.int .i64 n, v]])
    (fun x => cs.length - x.1) (0, List.replicate N 0) [0, 2, 0, 0, 0, 0, 0] ⟨Nat.zero_le _, by simp, fun a c _ h => by simp at h⟩ ?_ ⟨rfl, rfl, rfl, rfl, rfl, rfl, rfl, rfl, trivial⟩ ?_
  · have z1 : (madeCells (Value.int .i64 0).cells (N * 1)).toList = nV (List.replicate N 0) := by rw [made1 rfl]; simp [nV]
    have z2 : (madeCells (Value.int .i64 0).cells ((cs.length : Int).toNat * 1)).toList = iV (baseL cs 0) := by rw [made1 rfl, baseL_zero]; simp [iV]
    rw [z1, z2]
    exact rfl
  rintro ⟨i, y⟩ ⟨hi, hyl, hy⟩
  dsimp only at hi hyl hy ⊢
  by_cases hil : i < cs.length
  · obtain ⟨c, hci⟩ : ∃ c, cs[i]? = some c := ⟨_, List.getElem?_eq_getElem hil⟩
    obtain ⟨hd, hhd⟩ : ∃ hd, hc[i]? = some hd := ⟨_, List.getElem?_eq_getElem (by omega)⟩
    have hhd1 : hc[i * 1]? = some hd := by rw [Nat.mul_one]; exact hhd
    obtain ⟨hcl3, hclt⟩ := hcl2 c (List.mem_of_getElem? hci)
    have hbs := baseL_set hci
    have hbl := baseL_length hi
    have hkd : rowHP hd 3 1 c.length (nV c) ∈ kids rowN hc cs := kids_mem (f := rowN) hhd hci
    repeat' first
      | refine k_then ?_ | refine c_seq ?_ | refine c_region ?_ | refine s_nil ?_ | refine s_move (by exact rfl) (by exact rfl) ?_ | refine s_assign (by exact rfl) (by exact rfl) ?_ | refine s_lss (by exact rfl) (by exact rfl) (by exact rfl) ?_ | refine s_idx (by exact rfl) (by exact rfl) (by exact rfl) (by assumption) (by first | assumption | omega) ?_ | refine s_ld_row (by exact rfl) (by exact rfl) (by exact .tail _ (.tail _ (.head _))) (by assumption) ?_ | refine c_block ?_ | refine c_skip ?_ | (refine c_cond_p (by exact rfl) (fun h => ?_) (fun h => ?_) <;> try (exfalso; omega))
    refine know_kid (by exact .tail _ (.tail _ (.tail _ (.head _)))) hkd fun hsd _ => ?_
    repeat' first
      | refine s_len (by exact rfl) (by exact rfl) (by assumption) ?_ | refine s_idx (by exact rfl) (by exact rfl) (by exact rfl) (by assumption) (by first | assumption | omega) ?_
    refine o_st_row (i := 0) (by exact rfl) (by exact rfl) (by exact rfl) rfl (by omega) ?_
    rw [iV_set]
    refine s_nil ?_
    refine k_then ?_
    refine c_seq ?_
    refine c_join (X := Unit) (fun _ => [(2, .pointer (some ⟨b, 0, none⟩)), (6, vf), (8, vm), (9, vc), (10, vo), (11, .int .i64 (i : Int)), (12, hd), (36, vc), (37, .int .i64 (cs.length : Int)), (38, .int .i64 (i : Int))]) (fun _ => [rowHP vo 3 1 cs.length (iV (baseL cs (i + 1))), rowHP vm 3 1 N (nV y), rowHP vc 28 1 cs.length hc, starHP (kids rowN hc cs), rowHP vf 101 1 Fs.length hf, starHP (kids rowD hf Fs), boxHP b 24 [.int .i64 n, v]]) (fun K hk => ?_) (fun _ => ?_)
    · repeat' first
        | refine k_then ?_ | refine c_seq ?_ | refine c_region ?_ | refine s_nil ?_ | refine s_move (by exact rfl) (by exact rfl) ?_ | refine s_eql (by exact rfl) (by exact rfl) (by exact rfl) ?_ | refine s_len (by exact rfl) (by exact rfl) (by assumption) ?_ | refine s_idx (by exact rfl) (by exact rfl) (by exact rfl) (by assumption) (by first | assumption | omega) ?_ | refine c_skip ?_ | (refine c_cond_p (by exact rfl) (fun h => ?_) (fun h => ?_) <;> try (exfalso; omega))
      · refine o_st_row (i := 0) (by exact rfl) (by exact rfl) (by exact rfl) rfl (by omega) ?_
        rw [iV_set]
        repeat' first
          | refine k_then ?_ | refine s_nil ?_
        refine j_end hk () [0, 0, 0, 0, 0, 0, 0] ?_ ⟨rfl, rfl, rfl, rfl, rfl, rfl, rfl, rfl, rfl, rfl, trivial⟩
        rw [← hbs, baseK, if_pos (by omega), show ((baseL cs i).set i (c.length : Int)).set i 2 = (baseL cs i).set i 2 from List.set_set ..]
        exact rfl
      · refine j_end hk () [0, 0, 0, 0, 0, 0, 0] ?_ ⟨rfl, rfl, rfl, rfl, rfl, rfl, rfl, rfl, rfl, rfl, trivial⟩
        rw [← hbs, baseK, if_neg (by omega)]
        exact rfl
    · repeat' first
        | refine k_then ?_ | refine c_seq ?_ | refine c_region ?_ | refine s_nil ?_ | refine s_move (by exact rfl) (by exact rfl) ?_ | refine s_len (by exact rfl) (by exact rfl) (by assumption) ?_ | refine c_block ?_
      refine c_loop (fun x : Nat × List Nat => x.1 ≤ c.length ∧ x.2.length = N ∧ (∀ (a : Nat) c', cs[a]? = some c' → a < i → ∀ u ∈ c', x.2.getD u 0 = a) ∧ ∀ u ∈ c.take x.1, x.2.getD u 0 = i)
        (fun x => [(2, .pointer (some ⟨b, 0, none⟩)), (6, vf), (8, vm), (9, vc), (10, vo), (11, .int .i64 (i : Int)), (36, vc), (37, .int .i64 (cs.length : Int)), (38, .int .i64 (i : Int)), (54, hd), (55, .int .i64 (c.length : Int)), (56, .int .i64 (x.1 : Int))])
        (fun x => [rowHP vo 3 1 cs.length (iV (baseL cs (i + 1))), rowHP vm 3 1 N (nV x.2), rowHP vc 28 1 cs.length hc, starHP (kids rowN hc cs), rowHP vf 101 1 Fs.length hf, starHP (kids rowD hf Fs), boxHP b 24 [.int .i64 n, v]])
        (fun x => c.length - x.1) (0, y) [0, 0, 0, 0, 0, 0, 0] ⟨Nat.zero_le _, hyl, hy, by simp⟩ (by exact rfl) ⟨rfl, rfl, rfl, rfl, rfl, rfl, rfl, rfl, rfl, rfl, rfl, rfl, trivial⟩ ?_
      rintro ⟨j, z⟩ ⟨hj, hzl, hz1, hz2⟩
      dsimp only at hj hzl hz1 hz2 ⊢
      by_cases hjl : j < c.length
      · have hcj := nV_get hjl
        have hcm : c.getD j 0 ∈ c := by rw [List.getD_eq_getElem?_getD, List.getElem?_eq_getElem hjl]; exact List.getElem_mem _
        have hcu := hclt _ hcm
        repeat' first
          | refine k_then ?_ | refine c_seq ?_ | refine c_region ?_ | refine s_nil ?_ | refine s_move (by exact rfl) (by exact rfl) ?_ | refine s_assign (by exact rfl) (by exact rfl) ?_ | refine s_lss (by exact rfl) (by exact rfl) (by exact rfl) ?_ | refine s_idx (by exact rfl) (by exact rfl) (by exact rfl) (by assumption) (by first | assumption | omega) ?_ | refine s_ld_kid (by exact rfl) (by exact rfl) (by assumption) (by exact .tail _ (.tail _ (.tail _ (.head _)))) (by assumption) ?_ | refine c_block ?_ | refine c_skip ?_ | (refine c_cond_p (by exact rfl) (fun h => ?_) (fun h => ?_) <;> try (exfalso; omega))
        refine o_st_row (i := 1) (by exact rfl) (by exact rfl) (by exact rfl) rfl (by omega) ?_
        rw [nV_set]
        repeat' first
          | refine k_then ?_ | refine c_region ?_ | refine s_nil ?_ | refine s_move (by exact rfl) (by exact rfl) ?_ | refine s_add (by exact rfl) (by exact rfl) (by exact rfl) (by omega) ?_ | refine k_blk ?_
        refine c_round (j + 1, z.set (c.getD j 0) i) [0, 0, 0, 0, 0, 0, 0] (by exact rfl) ⟨rfl, rfl, rfl, rfl, rfl, rfl, rfl, rfl, rfl, rfl, rfl, rfl, trivial⟩ ⟨by dsimp only; omega, by dsimp only; rw [List.length_set]; exact hzl, fun a c' ha hai u hu => ?_, fun u hu => ?_⟩ (by dsimp only; omega)
        · dsimp only
          rw [getD_setN]
          split
          · exfalso
            rename_i he
            obtain ⟨a0, c0, h1, h2, h3⟩ := hone u ((hcl2 c' (List.mem_of_getElem? ha)).2 u hu)
            have e1 := (h3 a c' ha).1 hu
            have e2 := (h3 i c hci).1 (he.1 ▸ hcm)
            omega
          · exact hz1 a c' ha hai u hu
        · dsimp only at hu ⊢
          rw [getD_setN]
          split
          · rfl
          · rename_i he
            rw [List.take_add_one, List.getElem?_eq_getElem hjl] at hu
            rcases List.mem_append.1 hu with hu | hu
            · exact hz2 u hu
            · exfalso
              obtain rfl : u = c[j] := by simpa using hu
              refine he ⟨?_, by rw [hzl]; exact hcu⟩
              rw [List.getD_eq_getElem?_getD, List.getElem?_eq_getElem hjl]; rfl
      · repeat' first
          | refine k_then ?_ | refine c_seq ?_ | refine c_region ?_ | refine s_nil ?_ | refine s_move (by exact rfl) (by exact rfl) ?_ | refine s_lss (by exact rfl) (by exact rfl) (by exact rfl) ?_ | refine s_add (by exact rfl) (by exact rfl) (by exact rfl) (by omega) ?_ | refine c_exit ?_ | refine k_then_exit ?_ | refine k_blk ?_ | refine k_blk_eq ?_ | (refine c_cond_p (by exact rfl) (fun h => ?_) (fun h => ?_) <;> try (exfalso; omega))
        rw [List.take_of_length_le (by omega)] at hz2
        refine c_round (i + 1, z) [0, 0, 0, 0, 0, 0, 0] (by exact rfl) ⟨rfl, rfl, rfl, rfl, rfl, rfl, rfl, rfl, trivial⟩ ⟨by dsimp only; omega, hzl, fun a c' ha hai u hu => ?_⟩ (by dsimp only; omega)
        by_cases hai2 : a < i
        · exact hz1 a c' ha hai2 u hu
        · obtain rfl : a = i := by dsimp only at hai; omega
          rw [hci] at ha
          obtain rfl := Option.some.inj ha
          exact hz2 u hu
  · repeat' first
      | refine k_then ?_ | refine c_seq ?_ | refine c_region ?_ | refine s_nil ?_ | refine s_move (by exact rfl) (by exact rfl) ?_ | refine s_fa (by exact rfl) (by exact rfl) ?_ | refine s_ld_box (by exact rfl) (by exact rfl) (by exact .tail _ (.tail _ (.tail _ (.tail _ (.tail _ (.tail _ (.head _))))))) (by exact rfl) ?_ | refine s_lss (by exact rfl) (by exact rfl) (by exact rfl) ?_ | refine s_len (by exact rfl) (by exact rfl) (by assumption) ?_ | refine c_block ?_ | refine c_exit ?_ | refine k_then_exit ?_ | refine k_blk_eq ?_ | (refine c_cond_p (by exact rfl) (fun h => ?_) (fun h => ?_) <;> try (exfalso; omega))
    obtain rfl : i = cs.length := by omega
    rw [baseL_all, ← eulE_zero (tn es)]
    have hat : ∀ u, u < N → ∃ (a : Nat) (c : List Nat), cs[a]? = some c ∧ (nV y)[u * 1]? = some (.int .i64 (a : Int)) ∧ a < cs.length ∧ c.length ≤ N ∧ ∀ (b : Nat) x, cs[b]? = some x → (u ∈ x ↔ b = a) := fun u hu => by
      obtain ⟨a, c, h1, h2, h3⟩ := hone u hu
      have h4 := (List.getElem?_eq_some_iff.1 h1).1
      refine ⟨a, c, h1, ?_, h4, (hcl2 c (List.mem_of_getElem? h1)).1, h3⟩
      rw [nV_get (by omega), hy a c h1 h4 u h2]
    refine c_loop (fun k : Nat => k ≤ es.length) (fun k => [(2, .pointer (some ⟨b, 0, none⟩)), (6, vf), (8, vm), (10, vo), (67, v), (68, .int .i64 (es.length : Int)), (69, .int .i64 (k : Int))])
      (fun k => [rowHP vo 3 1 cs.length (iV (cs.map (eulE (tn es) k))), rowHP vm 3 1 N (nV y), rowHP vf 101 1 Fs.length hf, starHP (kids rowD hf Fs)])
      (fun k => es.length - k) 0 [0, 0, 2, 2] (Nat.zero_le _) (by exact rfl) ⟨rfl, rfl, rfl, rfl, rfl, rfl, rfl, trivial⟩ ?_
    rintro k hk
    by_cases hlt : k < es.length
    · obtain ⟨e, he⟩ : ∃ e, es[k]? = some e := ⟨_, List.getElem?_eq_getElem hlt⟩
      have hE := esV_at he
      obtain ⟨o1, o2, o3, o4, _⟩ := hG.ok e (List.mem_of_getElem? he)
      obtain ⟨a, c, h1, h2, h3, h4, h5⟩ := hat e.1.toNat (by omega)
      have het : (tn es)[k]? = some (e.1.toNat, e.2.1.toNat) := by rw [tn, List.getElem?_map, he]; rfl
      have hst := eulE_step het h1 h5
      have hbd := eulE_bound (tn es) k c
      rw [tn_len] at hbd
      have hgx : (iV (cs.map (eulE (tn es) k)))[a * 1]? = some (.int .i64 (eulE (tn es) k c)) := by
        rw [Nat.mul_one, iV, List.getElem?_map, List.getElem?_map, h1]; rfl
      repeat' first
        | refine k_then ?_ | refine c_seq ?_ | refine c_region ?_ | refine s_nil ?_ | refine s_lss (by exact rfl) (by exact rfl) (by exact rfl) ?_ | refine s_idx (by exact rfl) (by exact rfl) (by exact rfl) (by assumption) (by first | assumption | omega) ?_ | refine s_ldk_ro (by exact rfl) (by exact rfl) (by assumption) (by decide) (by assumption) (by exact rfl) ?_ | refine o_alloc (by exact rfl) (fun b => ?_) | refine c_block ?_ | refine c_skip ?_ | (refine c_cond_p (by exact rfl) (fun h => ?_) (fun h => ?_) <;> try (exfalso; omega))
      refine o_stk_box (i := 0) (us := eV e) (by exact rfl) (by exact rfl) (by exact rfl) (by exact rfl) (by exact rfl) (by simp [eV, Value.oneCell']) (by simp [Value.cells]) ?_
      repeat' first
        | refine k_then ?_ | refine c_region ?_ | refine s_nil ?_ | refine s_move (by exact rfl) (by exact rfl) ?_ | refine s_fa (by exact rfl) (by exact rfl) ?_ | refine s_ld_box (by exact rfl) (by exact rfl) (by exact .head _) (by exact rfl) ?_ | refine s_sub (by exact rfl) (by exact rfl) (by exact rfl) (by omega) ?_ | refine s_idx (by exact rfl) (by exact rfl) (by exact rfl) (by assumption) (by first | assumption | omega) ?_ | refine s_idxi (by exact rfl) (by exact rfl) (by exact rfl) (by assumption) (by first | assumption | omega) ?_ | refine s_ld_row (by exact rfl) (by exact rfl) (by first | exact .tail _ (.head _) | exact .tail _ (.tail _ (.head _))) (by assumption) ?_
      refine o_st_row (i := 1) (by exact rfl) (by exact rfl) (by exact rfl) rfl (by omega) ?_
      rw [iV_set]
      repeat' first
        | refine k_then ?_ | refine c_region ?_ | refine s_nil ?_ | refine s_move (by exact rfl) (by exact rfl) ?_ | refine s_add (by exact rfl) (by exact rfl) (by exact rfl) (by omega) ?_ | refine k_blk ?_
      refine c_round (k + 1) [1, 1, 1, 1] (by rw [← hst]; exact rfl) ⟨rfl, rfl, rfl, rfl, rfl, rfl, rfl, trivial⟩ (by omega) (by omega)
    · repeat' first
        | refine k_then ?_ | refine c_seq ?_ | refine c_region ?_ | refine s_nil ?_ | refine s_move (by exact rfl) (by exact rfl) ?_ | refine s_lss (by exact rfl) (by exact rfl) (by exact rfl) ?_ | refine s_len (by exact rfl) (by exact rfl) (by assumption) ?_ | refine c_block ?_ | refine c_exit ?_ | refine k_then_exit ?_ | refine k_blk_eq ?_ | (refine c_cond_p (by exact rfl) (fun h => ?_) (fun h => ?_) <;> try (exfalso; omega))
      obtain rfl : k = es.length := by omega
      rw [← tn_len es, ← eulF_zero (tn es) Fs]
      refine c_loop (fun k : Nat => k ≤ Fs.length) (fun k => [(8, vm), (10, vo), (84, vf), (85, .int .i64 (Fs.length : Int)), (86, .int .i64 (k : Int))])
        (fun k => [rowHP vo 3 1 cs.length (iV (cs.map (eulF (tn es) Fs k))), rowHP vm 3 1 N (nV y), rowHP vf 101 1 Fs.length hf, starHP (kids rowD hf Fs)])
        (fun k => Fs.length - k) 0 [0, 0, 0, 0] (Nat.zero_le _) (by exact rfl) ⟨rfl, rfl, rfl, rfl, rfl, trivial⟩ ?_
      rintro k hk
      by_cases hlt : k < Fs.length
      · obtain ⟨f, hf1⟩ : ∃ f, Fs[k]? = some f := ⟨_, List.getElem?_eq_getElem hlt⟩
        obtain ⟨hd, hhd⟩ : ∃ hd, hf[k]? = some hd := ⟨_, List.getElem?_eq_getElem (by omega)⟩
        have hhd1 : hf[k * 1]? = some hd := by rw [Nat.mul_one]; exact hhd
        obtain ⟨d, t, rfl, hdN⟩ := hFne f (List.mem_of_getElem? hf1)
        obtain ⟨a, c, h1, h2, h3, h4, h5⟩ := hat d.1 hdN
        have hst := eulF_step (l := tn es) hf1 h1 h5
        have hbd := eulF_bound (tn es) Fs k c
        rw [tn_len] at hbd
        have hgx : (iV (cs.map (eulF (tn es) Fs k)))[a * 1]? = some (.int .i64 (eulF (tn es) Fs k c)) := by
          rw [Nat.mul_one, iV, List.getElem?_map, List.getElem?_map, h1]; rfl
        have hkd : rowHP hd 100 2 (d :: t).length (dsV (d :: t)) ∈ kids rowD hf Fs := kids_mem (f := rowD) hhd hf1
        have hd0 : (dsV (d :: t))[0 * 2 + 0]? = some (.int .i64 (d.1 : Int)) := rfl
        have hpos : 0 < (d :: t).length := by simp
        repeat' first
          | refine k_then ?_ | refine c_seq ?_ | refine c_region ?_ | refine s_nil ?_ | refine s_move (by exact rfl) (by exact rfl) ?_ | refine s_assign (by exact rfl) (by exact rfl) ?_ | refine s_lss (by exact rfl) (by exact rfl) (by exact rfl) ?_ | refine s_idx (by exact rfl) (by exact rfl) (by exact rfl) (by assumption) (by first | assumption | omega) ?_ | refine s_ld_row (by exact rfl) (by exact rfl) (by exact .tail _ (.tail _ (.head _))) (by assumption) ?_ | refine c_block ?_ | refine c_skip ?_ | (refine c_cond_p (by exact rfl) (fun h => ?_) (fun h => ?_) <;> try (exfalso; omega))
        refine know_kid (by exact .tail _ (.tail _ (.tail _ (.head _)))) hkd fun hsd _ => ?_
        repeat' first
          | refine s_add (by exact rfl) (by exact rfl) (by exact rfl) (by omega) ?_ | refine s_idx (by exact rfl) (by exact rfl) (by exact rfl) (by assumption) (by first | assumption | omega) ?_ | refine s_fap (by exact rfl) (by exact rfl) (by assumption) (by omega) ?_ | refine s_ld_row (by exact rfl) (by exact rfl) (by first | exact .head _ | exact .tail _ (.head _)) (by assumption) ?_ | refine s_ld_kid (by exact rfl) (by exact rfl) (by assumption) (by exact .tail _ (.tail _ (.tail _ (.head _)))) (by assumption) ?_
        refine o_st_row (i := 0) (by exact rfl) (by exact rfl) (by exact rfl) rfl (by omega) ?_
        rw [iV_set]
        repeat' first
          | refine k_then ?_ | refine c_region ?_ | refine s_nil ?_ | refine s_move (by exact rfl) (by exact rfl) ?_ | refine s_add (by exact rfl) (by exact rfl) (by exact rfl) (by omega) ?_ | refine k_blk ?_
        refine c_round (k + 1) [0, 0, 0, 0] (by rw [← hst]; exact rfl) ⟨rfl, rfl, rfl, rfl, rfl, trivial⟩ (by omega) (by omega)
      · repeat' first
          | refine k_then ?_ | refine c_seq ?_ | refine c_region ?_ | refine s_nil ?_ | refine s_move (by exact rfl) (by exact rfl) ?_ | refine s_assign (by exact rfl) (by exact rfl) ?_ | refine s_lss (by exact rfl) (by exact rfl) (by exact rfl) ?_ | refine c_exit ?_ | refine c_ret ?_ | refine k_then_exit ?_ | refine k_blk_eq ?_ | (refine c_cond_p (by exact rfl) (fun h => ?_) (fun h => ?_) <;> try (exfalso; omega))
        obtain rfl : k = Fs.length := by omega
        rw [eulF_all]
        refine retL [.tmp 4, .tmp 5] [vo, .int .i64 0] [0] rfl ⟨res_tmp rfl, res_tmp rfl, trivial⟩ (by exact rfl) ⟨vo, _, lab, hLev, rfl, ?_⟩
        rw [eulerL, hcs]
end Go.Proofs.YtpajjnkmaebhcabGreat
end
section
set_option linter.unusedVariables false
namespace Fil
theorem lev_comps {N : Nat} {A : Nat → List Nat} {o o' lab lab' : Nat → Nat} (h : Lev N A o lab) (h' : Lev N A o' lab') : compsS N lab = compsS N lab' := compsS_congr (h.lab_eq h')
theorem lev_euler {N : Nat} {A : Nat → List Nat} {l : List (Nat × Nat)} {F : List (List (Nat × Nat))} {o o' lab lab' : Nat → Nat} (h : Lev N A o lab) (h' : Lev N A o' lab') : eulerL N l lab F = eulerL N l lab' F := by rw [eulerL, eulerL, lev_comps h h']
/-- is it in the plane -/
def planeR (N : Nat) (l : List (Nat × Nat)) (lab : Nat → Nat) (R : List (List Nat)) : Int := if (eulerL N l lab (facesR N l R)).any (fun x => decide (x ≠ 2)) then 12 else 0
end Fil
namespace Go.Proofs.YtpajjnkmaebhcabGreat
open Go.RowKit Go.Sl Fil
set_option maxRecDepth 100000
set_option maxHeartbeats 8000000
set_option linter.unusedVariables false
set_option linter.unusedSimpArgs false
attribute [local irreducible] Code.wp wpList bodyPost wpQuiet Exit.then Exit.inBlock Post wpAnyH wpOp
theorem indexFI_ok (v : Value) (l : List Int) (f : FuncId) (caps : List Value) (p : Int → Bool) (w : World) [FnTy Tryz.prog f] (hs : Shp v l.length) (hr : RO w No v (iV l))
    (hcl : ∀ (k : Nat) e, l[k]? = some e → ∀ w' S', Mod w No w' S' → Calls Tryz.prog f ([Value.int .i64 e] ++ caps).toArray w' (Post w' No (Just (.bool (p e))))) :
    Calls Tryz.prog 86 #[v, .func (.func f) #[] caps.toArray] w (Post w No (Just (.int .i64 (match l.findIdx? p with | some i => (i : Int) | none => -1)))) := by
  have hm := hs.1
  simp only [maxLen] at hm
  refine enter0 (vs := [_, _]) Tryz.func86 rfl Tryz.ntmps86 rfl ?_
  repeat' first
    | refine k_then ?_ | refine c_seq ?_ | refine c_region ?_ | refine s_nil ?_ | refine s_move (by exact rfl) (by exact rfl) ?_ | refine s_assign (by exact rfl) (by exact rfl) ?_ | refine s_len (by exact rfl) (by exact rfl) (by assumption) ?_ | refine c_block ?_
  refine c_loop (fun k : Nat => k ≤ l.length ∧ ∀ e ∈ l.take k, p e = false) (fun k => [(0, v), (1, .func (.func f) #[] caps.toArray), (6, v), (7, .int .i64 (l.length : Int)), (8, .int .i64 (k : Int))]) (fun _ => []) (fun k => l.length - k) 0 [] ⟨by omega, by simp⟩ rfl ⟨rfl, rfl, rfl, rfl, rfl, trivial⟩ ?_
  rintro k ⟨hk, hq⟩
  by_cases hlt : k < l.length
  · obtain ⟨e, he⟩ : ∃ e, l[k]? = some e := ⟨_, List.getElem?_eq_getElem hlt⟩
    have hE : (iV l)[k * 1]? = some (.int .i64 e) := by rw [Nat.mul_one, iV, List.getElem?_map, he]; rfl
    repeat' first
      | refine k_then ?_ | refine c_seq ?_ | refine c_region ?_ | refine s_nil ?_ | refine s_move (by exact rfl) (by exact rfl) ?_ | refine s_assign (by exact rfl) (by exact rfl) ?_ | refine s_lss (by exact rfl) (by exact rfl) (by exact rfl) ?_ | refine s_idx (by exact rfl) (by exact rfl) (by exact rfl) (by assumption) (by first | assumption | omega) ?_ | refine s_ld_ro (by exact rfl) (by exact rfl) (by assumption) (by assumption) ?_ | refine c_block ?_ | refine c_skip ?_ | (refine c_cond_p (by exact rfl) (fun h => ?_) (fun h => ?_) <;> try (exfalso; omega))
    refine s_callv (pre := []) (by exact rfl) (by exact rfl) (by exact rfl) (fun w h => h.mod0.elim fun S' hm => hcl k e he w S' hm) ?_
    cases hp : p e
    · repeat' first
        | refine k_then ?_ | refine c_region ?_ | refine s_nil ?_ | refine s_move (by exact rfl) (by exact rfl) ?_ | refine s_add (by exact rfl) (by exact rfl) (by exact rfl) (by omega) ?_ | refine c_skip ?_ | refine k_blk ?_ | refine c_cond_f (by exact rfl) ?_
      refine c_round (k + 1) [] (by exact rfl) ⟨rfl, rfl, rfl, rfl, rfl, trivial⟩ ⟨by omega, ?_⟩ (by omega)
      rw [List.take_add_one, he]
      intro a ha
      rcases List.mem_append.1 ha with ha | ha
      · exact hq a ha
      · obtain rfl : a = e := by simpa using ha
        exact hp
    · repeat' first
        | refine k_then ?_ | refine c_seq ?_ | refine c_region ?_ | refine s_nil ?_ | refine s_move (by exact rfl) (by exact rfl) ?_ | refine s_assign (by exact rfl) (by exact rfl) ?_ | refine c_ret ?_ | refine k_then_ret ?_ | refine k_blk_ret ?_ | refine c_cond_t (by exact rfl) ?_
      have hfi : l.findIdx? p = some k := by
        rw [List.findIdx?_eq_some_iff_getElem]
        obtain ⟨h1, h2⟩ := List.getElem?_eq_some_iff.1 he
        refine ⟨h1, by rw [h2]; exact hp, fun j hj => ?_⟩
        rw [hq _ (List.mem_take_iff_getElem.2 ⟨j, by omega, rfl⟩)]
        simp
      refine ret1 [] rfl rfl rfl ⟨by rw [hfi], rfl⟩
  · rw [List.take_of_length_le (by omega)] at hq
    repeat' first
      | refine k_then ?_ | refine c_seq ?_ | refine c_region ?_ | refine s_nil ?_ | refine s_assign (by exact rfl) (by exact rfl) ?_ | refine s_lss (by exact rfl) (by exact rfl) (by exact rfl) ?_ | refine c_exit ?_ | refine c_ret ?_ | refine k_then_exit ?_ | refine k_blk_eq ?_ | (refine c_cond_p (by exact rfl) (fun h => ?_) (fun h => ?_) <;> try (exfalso; omega))
    refine ret1 [] rfl rfl rfl ⟨by rw [List.findIdx?_eq_none_iff.2 hq], rfl⟩
theorem containsFI_ok (v : Value) (l : List Int) (f : FuncId) (caps : List Value) (p : Int → Bool) (w : World) [FnTy Tryz.prog f] (hs : Shp v l.length) (hr : RO w No v (iV l))
    (hcl : ∀ (k : Nat) e, l[k]? = some e → ∀ w' S', Mod w No w' S' → Calls Tryz.prog f ([Value.int .i64 e] ++ caps).toArray w' (Post w' No (Just (.bool (p e))))) :
    Calls Tryz.prog 56 #[v, .func (.func f) #[] caps.toArray] w (Post w No (Just (.bool (l.any p)))) := by
  refine enter0 (vs := [_, _]) Tryz.func56 rfl Tryz.ntmps56 rfl ?_
  repeat' first
    | refine k_then ?_ | refine c_seq ?_ | refine c_region ?_ | refine s_nil ?_ | refine s_move (by exact rfl) (by exact rfl) ?_ | refine s_assign (by exact rfl) (by exact rfl) ?_
  refine s_call (by exact rfl) (by exact rfl) (fun w h => h.mod0.elim fun S' hm => indexFI_ok v l f caps p w hs (ro_old h hr) fun k e he w' S2 hm2 => hcl k e he w' _ (mod_trans0 hm hm2)) ?_
  repeat' first
    | refine k_then ?_ | refine s_nil ?_ | refine s_assign (by exact rfl) (by exact rfl) ?_ | refine s_geq (by exact rfl) (by exact rfl) (by exact rfl) ?_ | refine c_ret ?_
  refine ret1 [] rfl rfl rfl ⟨congrArg Value.bool ?_, rfl⟩
  cases h : l.findIdx? p with
  | none =>
    have := List.findIdx?_eq_none_iff.1 h
    rw [List.any_eq_false.2 (fun x hx => by rw [this x hx]; simp)]
    simp
  | some i =>
    obtain ⟨h1, h2, _⟩ := List.findIdx?_eq_some_iff_getElem.1 h
    rw [List.any_eq_true.2 ⟨_, List.getElem_mem h1, h2⟩]
    simp
theorem plane1_ok (x : Int) (w : World) : Calls Tryz.prog 61 #[.int .i64 x] w (Post w No (Just (.bool (decide (x ≠ 2))))) := by
  refine enter0 (vs := [_]) Tryz.func61 rfl Tryz.ntmps61 rfl ?_
  repeat' first
    | refine k_then ?_ | refine c_seq ?_ | refine c_region ?_ | refine s_nil ?_ | refine s_move (by exact rfl) (by exact rfl) ?_ | refine s_assign (by exact rfl) (by exact rfl) ?_ | refine s_neq (by exact rfl) (by exact rfl) (by exact rfl) ?_ | refine c_ret ?_
  refine ret1 [] rfl rfl rfl ⟨rfl, rfl⟩
theorem rotEulerL_ok (n : Int) (v : Value) (es : List E) (vr : Value) (hr0 : List Value) (R : List (List Nat)) (o lab : Nat → Nat) (w : World) (hs : Shp v es.length) (hr : RO w No v (esV es)) (hG : RightG n es) (hR : ROs w No vr hr0 R) (hRot : RotL n.toNat (tn es) R) (hL : Lev n.toNat (nb (tn es)) o lab) :
    Calls Tryz.prog 60 #[.agg #[.int .i64 n, v], vr] w (Post w No fun r L' => ∃ vo : Value, r = .tuple #[vo, .int .i64 0] ∧ L' = [rowHP vo 3 1 (eulerL n.toNat (tn es) lab (facesR n.toNat (tn es) R)).length (iV (eulerL n.toNat (tn es) lab (facesR n.toNat (tn es) R)))]) := by
  refine Calls.mono (rotEuler_ok n v es vr hr0 R w hs hr hG hR hRot) (Post.imp ?_)
  rintro r L' ⟨vo, o', lab', h1, h2, h3⟩
  refine ⟨vo, h2, ?_⟩
  rw [h3, lev_euler h1 hL, eulerL, List.length_map, lev_comps h1 hL]
theorem rotPlane_ok (n : Int) (v : Value) (es : List E) (vr : Value) (hr0 : List Value) (R : List (List Nat)) (o lab : Nat → Nat) (w : World) (hs : Shp v es.length) (hr : RO w No v (esV es)) (hG : RightG n es) (hR : ROs w No vr hr0 R) (hRot : RotL n.toNat (tn es) R) (hL : Lev n.toNat (nb (tn es)) o lab) :
    Calls Tryz.prog 32 #[.agg #[.int .i64 n, v], vr] w (Post w No (Just (.int .i64 (planeR n.toNat (tn es) lab R)))) := by
  have hsr := hR.shp
  have hrr := hR.ro
  refine enter0 (vs := [_, _]) Tryz.func32 rfl Tryz.ntmps32 rfl ?_
  repeat' first
    | refine k_then ?_ | refine c_seq ?_ | refine c_region ?_ | refine s_nil ?_ | refine s_move (by exact rfl) (by exact rfl) ?_ | refine s_assign (by exact rfl) (by exact rfl) ?_ | refine s_ldk_box (by exact rfl) (by exact rfl) (by exact .head _) (by exact rfl) (by exact rfl) ?_ | refine o_box (by exact rfl) (by exact rfl) (fun b => ?_)
  refine o_call (by exact rfl) (by exact rfl) (fun w h => rotEulerL_ok n v es vr hr0 R o lab w hs (ro_old h hr) hG (ros_old h hR) hRot hL) ?_
  rintro _ _ ⟨vo, rfl, rfl⟩
  refine know_row (v := vo) (.head _) fun hvo _ => ?_
  repeat' first
    | refine k_then ?_ | refine c_seq ?_ | refine c_region ?_ | refine s_nil ?_ | refine s_move (by exact rfl) (by exact rfl) ?_ | refine s_assign (by exact rfl) (by exact rfl) ?_ | refine s_neq (by exact rfl) (by exact rfl) (by exact rfl) ?_ | refine s_extract (by exact rfl) (by exact rfl) (by exact rfl) ?_ | refine c_block ?_ | (refine c_cond_p (by exact rfl) (fun h => ?_) (fun h => ?_) <;> try (exfalso; omega))
  refine s_call (by exact rfl) (by exact rfl) (fun w h => containsFI_ok vo (eulerL n.toNat (tn es) lab (facesR n.toNat (tn es) R)) 61 [] (fun x => decide (x ≠ 2)) w hvo (ro_own h (.head _)) fun k e _ w' S' hm => plane1_ok e w') ?_
  unfold planeR
  cases (eulerL n.toNat (tn es) lab (facesR n.toNat (tn es) R)).any fun x => decide (x ≠ 2) with
  | true =>
    repeat' first
      | refine k_then ?_ | refine c_seq ?_ | refine c_region ?_ | refine s_nil ?_ | refine s_assign (by exact rfl) (by exact rfl) ?_ | refine c_ret ?_ | refine k_then_ret ?_ | refine k_blk_ret ?_ | refine c_cond_t (by exact rfl) ?_
    refine ret1 [] rfl rfl rfl ⟨rfl, rfl⟩
  | false =>
    repeat' first
      | refine k_then ?_ | refine c_seq ?_ | refine c_region ?_ | refine s_nil ?_ | refine s_assign (by exact rfl) (by exact rfl) ?_ | refine c_skip ?_ | refine c_ret ?_ | refine k_blk ?_ | refine c_cond_f (by exact rfl) ?_
    refine ret1 [] rfl rfl rfl ⟨rfl, rfl⟩
end Go.Proofs.YtpajjnkmaebhcabGreat
end
section
set_option linter.unusedVariables false
namespace Fil
theorem planeR_two {N : Nat} {l : List (Nat × Nat)} {lab : Nat → Nat} {R : List (List Nat)} (h : planeR N l lab R = 0) : ∀ c ∈ compsS N lab, eulerK l (facesR N l R) c = 2 := by
  intro c hc
  rw [planeR] at h
  split at h
  · omega
  · rename_i hn
    refine Decidable.byContradiction fun hne => hn ?_
    exact List.any_eq_true.2 ⟨_, List.mem_map.2 ⟨c, hc, rfl⟩, decide_eq_true hne⟩
end Fil
end
section
set_option linter.unusedVariables false
namespace Fil
open Go.Sl
variable {n : Int} {es : List E} {R : List (List Nat)} {o lab : Nat → Nat}
theorem flat_of (hG : RightG n es) (h : RotL n.toNat (tn es) R) (hL : Lev n.toNat (nb (tn es)) o lab) (hP : planeR n.toNat (tn es) lab R = 0) : Flat (rf R) n.toNat where
  sys := ⟨_, h.sys hG⟩
  lt v u hu := h.lt hG hu
  comp v hv := by
    obtain ⟨a, c, hc, hvc, -⟩ := comp_one hL hv
    have hc := List.mem_of_getElem? hc
    have hcl : ∀ x ∈ c, x < n.toNat := fun x hx => by
      obtain ⟨r, hr, hrr, rfl⟩ := comp_mem hc
      exact List.mem_range.1 (List.mem_filter.1 hx).1
    obtain ⟨c', hp, hg⟩ := comp_grow hG h hL hc
    refine ⟨c, hvc, comp_nodup hc, hcl, comp_shut hG h hL hc, (grow_con hg).perm fun x => hp.mem_iff, fun h2 => ⟨fun x hx => grow_ne (h.sys hG) hg (by have := hp.length_eq; omega) x (hp.mem_iff.2 hx), _, h.sys hG, _, comp_count hG h hL (facesR_dec hG h) hc, ?_⟩⟩
    have := planeR_two hP c hc
    rw [eulerK, if_neg (by omega)] at this
    omega
/-- buckets: as the first loop fills them -/
def few0 (R : List (List Nat)) : Nat → List (List Nat)
  | 0 => List.replicate 6 []
  | k + 1 => pushL (few0 R k) (adj R k).length k
theorem pushL_eq (few As : List (List Nat)) (v : Nat) : pushL few (adj As v).length v = pushK few As v := rfl
theorem few0_ok (R : List (List Nat)) : ∀ k, (few0 R k).length = 6 ∧ (∀ l ∈ few0 R k, l.length ≤ k ∧ ∀ u ∈ l, u < k) ∧ ∀ u, u < k → (adj R u).length ≤ 5 → u ∈ (few0 R k).getD (adj R u).length []
  | 0 => ⟨by simp [few0], fun l hl => (by
      obtain ⟨-, rfl⟩ := List.mem_replicate.1 hl
      simp), fun u hu => by omega⟩
  | k + 1 => by
    obtain ⟨h1, h2, h3⟩ := few0_ok R k
    rw [few0, pushL_eq]
    refine ⟨by unfold pushK; split <;> simp [h1], fun l hl => ?_, fun u hu h5 => ?_⟩
    · refine ⟨?_, pushK_lt (fun l hl u hu => by have := (h2 l hl).2 u hu; omega) (by omega) l hl⟩
      unfold pushK at hl
      split at hl
      · rcases List.mem_or_eq_of_mem_set hl with hl | rfl
        · have := (h2 l hl).1; omega
        · rw [List.length_append, List.length_singleton]
          rw [List.getD_eq_getElem?_getD]
          cases hx : (few0 R k)[(R.getD k []).length]? with
          | none => simp
          | some l => have := (h2 l (List.mem_of_getElem? hx)).1; simp; omega
      · have := (h2 l hl).1; omega
    · by_cases e : u = k
      · subst e; exact pushK_in h5 h1
      · exact pushK_sub (h3 u (by omega) h5)
theorem shr_begin (hN : n.toNat ≤ 100) (hG : RightG n es) (h : RotL n.toNat (tn es) R) : Shr (rf R) n.toNat (rf R) (fun u => decide (u < n.toNat)) R (few0 R n.toNat) (List.replicate n.toNat false) [] := by
  obtain ⟨h1, h2, h3⟩ := few0_ok R n.toNat
  have hS := h.sys hG
  have hal : ∀ u, alv n.toNat (List.replicate n.toNat false) u = decide (u < n.toNat) := fun u => by
    rw [alv]
    have : (List.replicate n.toNat false).getD u false = false := by
      rw [List.getD_eq_getElem?_getD, List.getElem?_replicate]; split <;> rfl
    rw [this]; simp
  have hlf : Left (rf R) n.toNat (adj R) (alv n.toNat (List.replicate n.toNat false)) := by
    refine ⟨fun u w hu hw => ?_, fun u _ => hS.nd u, fun u hu => by rw [hal] at hu; simpa using hu, fun u => [u], fun u hu => ⟨by simp, Con.one u, by simp, fun v hv => ?_⟩, fun u w _ _ hne v hv => ?_, fun u w hu hw => ⟨u, by simp, w, by simp, hw⟩⟩
    · have := h.lt hG hw
      exact ⟨by rw [hal]; exact decide_eq_true this.1, hS.ne hw, hS.sym hw⟩
    · rw [hal] at hu
      obtain rfl : v = u := by simpa using hv
      simpa using hu
    · obtain rfl : v = u := by simpa using hv
      simpa using hne
  refine ⟨hlf, ⟨fun u hu h5 => h3 u (hlf.lt u hu) h5, fun l hl u hu => (h2 l hl).2 u hu⟩, fun w => hS.nd w, fun w u hu => (h.lt hG hu).1, h.len, by simp, h1, ?_, fun l hl => ?_, fun rest hr => ?_⟩
  · have : (List.range n.toNat).filter (alv n.toNat (List.replicate n.toNat false)) = List.range n.toNat := List.filter_eq_self.2 fun u hu => by rw [hal]; simpa using hu
    rw [cntA, this]; simp
  · have h4 := (h2 l hl).1; have := hN; simp; omega
  · rw [List.nil_append]
    have e : alv n.toNat (List.replicate n.toNat false) = fun u => decide (u < n.toNat) := funext hal
    rw [← e]; exact hr
theorem Plan.lt {N : Nat} {A : Nat → List Nat} {al : Nat → Bool} {st : List Stp} (h : Plan N A al st) : ∀ s ∈ st, s.1 < N ∧ s.2.1 < (N : Int) ∧ s.2.2.length ≤ 5 ∧ ∀ u ∈ s.2.2, u < N := by
  induction h with
  | done h0 => simp
  | @leave A al A' al' v l rest hs hv hl h4 hal hA h ih =>
    intro s hs2
    rcases List.mem_cons.1 hs2 with rfl | hs2
    · have := hs.lt v hv
      exact ⟨this, by dsimp only; omega, by dsimp only; omega, fun u hu => hs.lt u (hs.sym v u hv ((hl u).1 hu)).1⟩
    · exact ih s hs2
  | @merge A al A' al' v a b l rest hs hv hl h5 ha hb hab hn hal hA h ih =>
    intro s hs2
    rcases List.mem_cons.1 hs2 with rfl | hs2
    · have := hs.lt v hv
      exact ⟨this, by dsimp only; omega, by dsimp only; omega, fun u hu => hs.lt u (hs.sym v u hv ((hl u).1 hu)).1⟩
    rcases List.mem_cons.1 hs2 with rfl | hs2
    · have h1 := hs.lt a (hs.sym v a hv ((hl a).1 ha)).1
      have h2 := hs.lt b (hs.sym v b hv ((hl b).1 hb)).1
      exact ⟨h1, by dsimp only; omega, by simp, by simp⟩
    · exact ih s hs2
end Fil
end
section
set_option linter.unusedVariables false
namespace Go.Sl
open Go Go.RowKit Fil
theorem stpV_get {st : List Stp} {ns : List Value} {j : Nat} {s : Stp} {h : Value} (h1 : st[j]? = some s) (h2 : ns[j]? = some h) : ((stpV st ns).drop (j * 3)).take 3 = [.int .i64 (s.1 : Int), .int .i64 s.2.1, h] := by
  induction st generalizing ns j with
  | nil => simp at h1
  | cons a st ih =>
    cases ns with
    | nil => simp at h2
    | cons b ns =>
      have e : stpV (a :: st) (b :: ns) = .int .i64 (a.1 : Int) :: .int .i64 a.2.1 :: b :: stpV st ns := rfl
      cases j with
      | zero =>
        obtain rfl : a = s := by simpa using h1
        obtain rfl : b = h := by simpa using h2
        rw [e]; rfl
      | succ j =>
        have := ih (ns := ns) (j := j) (by simpa using h1) (by simpa using h2)
        rw [e, show (j + 1) * 3 = j * 3 + 1 + 1 + 1 by omega, List.drop_succ_cons, List.drop_succ_cons, List.drop_succ_cons]
        exact this
end Go.Sl
namespace Go.Proofs.YtpajjnkmaebhcabGreat
open Go Go.RowKit Go.Sl Fil
set_option maxRecDepth 100000
set_option maxHeartbeats 8000000
set_option linter.unusedVariables false
set_option linter.unusedSimpArgs false
attribute [local irreducible] Code.wp wpList bodyPost wpQuiet Exit.then Exit.inBlock Post wpAnyH wpOp
theorem cback1_ok (b : Nat) (v : Value) (st : List Stp) (ns : List Value) (w : World) (S : FS) (hb : RB w S b 59 [v]) (hsh : Shp v st.length) (hl : ns.length = st.length) (hr : RO w S v (stpV st ns)) (hN : st.length ≤ 1048576) :
    IterOK Tryz.prog 67 [.pointer (some ⟨b, 0, none⟩)] st.length (fun i => [.int .i64 ((st.length : Int) - 1 - (i : Int)), .agg #[.int .i64 ((st.getD (st.length - 1 - i) (0, 0, [])).1 : Int), .int .i64 (st.getD (st.length - 1 - i) (0, 0, [])).2.1, ns.getD (st.length - 1 - i) undef]]) w S := by
  intro l LL hy M hM hsat
  refine enter (vs := [_, _]) Tryz.func67 rfl Tryz.ntmps67 rfl hsat ?_
  repeat' first
    | refine k_then ?_ | refine c_seq ?_ | refine c_region ?_ | refine s_nil ?_ | refine s_assign (by exact rfl) (by exact rfl) ?_ | refine s_sub (by exact rfl) (by exact rfl) (by exact rfl) (by omega) ?_ | refine s_len (by exact rfl) (by exact rfl) (by assumption) ?_ | refine s_ld_rb (by exact rfl) (by exact rfl) (by assumption) (by exact rfl) ?_ | refine c_block ?_ | fail
  refine c_loop (fun x : Nat × List HP => x.1 ≤ st.length ∧ LL x.1 x.2) (fun x => [(0, .func (.yield l) #[] #[]), (1, .pointer (some ⟨b, 0, none⟩)), (3, .int .i64 ((st.length : Int) - 1 - (x.1 : Int)))]) (fun x => x.2) (fun x => st.length - x.1) (0, M) (List.replicate M.length 0) ⟨by simp, hM⟩ (pick_id M) ⟨rfl, rfl, by simp [fget], trivial⟩ ?_
  clear hM hsat
  rintro ⟨i, M⟩ ⟨hi, hM⟩
  dsimp only at hi hM ⊢
  by_cases hil : i < st.length
  · generalize hreg : Code.region 3 _ _ = creg
    repeat' first
      | refine k_then ?_ | refine c_seq ?_ | refine c_region ?_ | refine s_nil ?_ | refine s_move (by exact rfl) (by exact rfl) ?_ | refine s_geq (by exact rfl) (by exact rfl) (by exact rfl) ?_ | refine c_block ?_ | refine c_skip ?_ | (refine c_cond_p (by exact rfl) (fun h => ?_) (fun h => ?_) <;> try (exfalso; omega)) | fail
    subst hreg
    have hj : st.length - 1 - i < st.length := by omega
    obtain ⟨x, hx⟩ : ∃ x, st[st.length - 1 - i]? = some x := ⟨_, List.getElem?_eq_getElem hj⟩
    obtain ⟨h, hh⟩ : ∃ h, ns[st.length - 1 - i]? = some h := ⟨_, List.getElem?_eq_getElem (by omega)⟩
    have hgx : st.getD (st.length - 1 - i) (0, 0, []) = x := by rw [List.getD_eq_getElem?_getD, hx]; rfl
    have hgh : ns.getD (st.length - 1 - i) undef = h := by rw [List.getD_eq_getElem?_getD, hh]; rfl
    have hE := stpV_get hx hh
    refine c_region_k 6 (by exact rfl) ?_
    simp only [List.take_succ_cons, List.take_zero, List.drop_succ_cons, List.drop_zero]
    rw [show (st.length : Int) - 1 - (i : Int) = ((st.length - 1 - i : Nat) : Int) by omega]
    generalize hjj : st.length - 1 - i = j at *
    repeat' first
      | refine k_then ?_ | refine s_nil ?_ | refine s_move (by exact rfl) (by exact rfl) ?_ | refine s_idx (by exact rfl) (by exact rfl) (by exact rfl) (by assumption) (by first | assumption | omega) ?_ | refine s_ldk_ro (by exact rfl) (by exact rfl) (by assumption) (by decide) (by assumption) (by exact rfl) ?_ | refine s_ld_rb (by exact rfl) (by exact rfl) (by assumption) (by exact rfl) ?_ | fail
    refine y_yield (K := LL (i + 1)) (by exact rfl) rfl (vs := [.int .i64 (j : Int), .agg #[.int .i64 (x.1 : Int), .int .i64 x.2.1, h]]) (by exact rfl) (fun W S' hm hs => by
      have := hy i M W S' hil hM hm hs
      dsimp only at this
      rw [hjj, hgx, hgh, show (st.length : Int) - 1 - (i : Int) = (j : Int) by omega] at this
      exact this) fun M' hM' => ?_
    refine y_rest (by exact rfl) ?_
    repeat' first
      | refine k_then ?_ | refine c_region ?_ | refine s_nil ?_ | refine s_move (by exact rfl) (by exact rfl) ?_ | refine s_assign (by exact rfl) (by exact rfl) ?_ | refine s_sub (by exact rfl) (by exact rfl) (by exact rfl) (by omega) ?_ | refine s_not (by exact rfl) (by exact rfl) ?_ | refine c_skip ?_ | refine k_blk ?_ | refine c_cond_f (by exact rfl) ?_ | fail
    refine c_round (i + 1, M') (List.replicate M'.length 0) (pick_id M') ⟨rfl, rfl, by rw [show (st.length : Int) - 1 - ((i + 1 : Nat) : Int) = (j : Int) - 1 by omega]; rfl, trivial⟩ ⟨by dsimp only; omega, hM'⟩ (by dsimp only; omega)
  · repeat' first
      | refine k_then ?_ | refine c_seq ?_ | refine c_region ?_ | refine s_nil ?_ | refine s_move (by exact rfl) (by exact rfl) ?_ | refine s_geq (by exact rfl) (by exact rfl) (by exact rfl) ?_ | refine c_exit ?_ | refine k_then_exit ?_ | refine k_blk_eq ?_ | (refine c_cond_p (by exact rfl) (fun h => ?_) (fun h => ?_) <;> try (exfalso; omega)) | fail
    obtain rfl : i = st.length := by omega
    refine ret0 (List.replicate M.length 0) rfl (pick_id M) hM
theorem CBackward_ok (v : Value) (w : World) (hv : v.oneCell' = true) : Calls Tryz.prog 35 #[v] w (Post w No fun r L' => ∃ b, r = .func (.func 67) #[] #[.pointer (some ⟨b, 0, none⟩)] ∧ L' = [boxHP b 59 [v]]) := by
  refine enter0 (vs := [_]) Tryz.func35 rfl Tryz.ntmps35 rfl ?_
  repeat' first
    | refine k_then ?_ | refine c_seq ?_ | refine c_region ?_ | refine s_nil ?_ | refine s_assign (by exact rfl) (by exact rfl) ?_ | refine o_box (by exact rfl) (by exact rfl) (fun b => ?_) | fail
  refine o_mkf [] [.pointer (some ⟨b, 0, none⟩)] (by exact rfl) (by exact rfl) (by exact rfl) ?_
  repeat' first
    | refine k_then ?_ | refine s_nil ?_ | refine s_assign (by exact rfl) (by exact rfl) ?_ | refine c_ret ?_ | fail
  rw [one_cells hv]
  refine ret1 [0] rfl rfl rfl ⟨b, rfl, rfl⟩
end Go.Proofs.YtpajjnkmaebhcabGreat
end
section
set_option linter.unusedVariables false
namespace Go.Proofs.YtpajjnkmaebhcabGreat
open Go Go.RowKit Go.Sl Fil
set_option maxRecDepth 100000
set_option maxHeartbeats 8000000
set_option linter.unusedVariables false
set_option linter.unusedSimpArgs false
attribute [local irreducible] Code.wp wpList bodyPost wpQuiet Exit.then Exit.inBlock Post wpAnyH wpOp
theorem ContainsI_ok (v : Value) (l : List Int) (x : Int) (w : World) (hs : Shp v l.length) (hr : RO w No v (iV l)) :
    Calls Tryz.prog 68 #[v, .int .i64 x] w (Post w No (Just (.bool (decide (x ∈ l))))) := by
  refine enter0 (vs := [_, _]) Tryz.func68 rfl Tryz.ntmps68 rfl ?_
  repeat' first
    | refine k_then ?_ | refine c_seq ?_ | refine c_region ?_ | refine s_nil ?_ | refine s_move (by exact rfl) (by exact rfl) ?_ | refine s_assign (by exact rfl) (by exact rfl) ?_ | fail
  refine s_call (by exact rfl) (by exact rfl) (fun w h => IndexI_ok v l x w hs (ro_old h hr)) ?_
  repeat' first
    | refine k_then ?_ | refine s_nil ?_ | refine s_assign (by exact rfl) (by exact rfl) ?_ | refine s_geq (by exact rfl) (by exact rfl) (by exact rfl) ?_ | refine c_ret ?_ | fail
  refine ret1 [] rfl rfl rfl ⟨congrArg Value.bool ?_, rfl⟩
  cases h : l.findIdx? fun y => decide (y = x) with
  | none =>
    have := List.findIdx?_eq_none_iff.1 h
    rw [decide_eq_false (p := x ∈ l) fun hx => by simpa using this x hx]
    simp
  | some i =>
    obtain ⟨h1, h2, _⟩ := List.findIdx?_eq_some_iff_getElem.1 h
    rw [decide_eq_true (p := x ∈ l) (by rw [← of_decide_eq_true h2]; exact List.getElem_mem h1)]
    simp
theorem Least_ok (v : Value) (l : List Int) (w : World) (hs : Shp v l.length) (hr : RO w No v (iV l)) :
    Calls Tryz.prog 36 #[v] w (Post w No (Just (.int .i64 (leastK l : Int)))) := by
  have hm := hs.1
  simp only [maxLen] at hm
  obtain ⟨h1, h2⟩ := least_spec l
  have h3 := least_le (used := l) (m := l) (fun _ h => h)
  refine enter0 (vs := [_]) Tryz.func36 rfl Tryz.ntmps36 rfl ?_
  repeat' first
    | refine k_then ?_ | refine c_seq ?_ | refine c_region ?_ | refine s_nil ?_ | refine s_assign (by exact rfl) (by exact rfl) ?_ | refine c_block ?_ | fail
  refine c_loop (fun k : Nat => k ≤ leastK l) (fun k => [(0, v), (3, .int .i64 (k : Int))]) (fun _ => []) (fun k => leastK l - k) 0 [] (Nat.zero_le _) rfl ⟨rfl, rfl, trivial⟩ ?_
  intro k hk
  repeat' first
    | refine c_seq ?_ | refine c_region ?_ | refine s_move (by exact rfl) (by exact rfl) ?_ | refine c_block ?_ | fail
  refine s_call (by exact rfl) (by exact rfl) (fun w h => ContainsI_ok v l (k : Int) w hs (ro_old h hr)) ?_
  by_cases e : k = leastK l
  · rw [decide_eq_false (by rw [e]; exact h1)]
    repeat' first
      | refine k_then ?_ | refine c_seq ?_ | refine c_region ?_ | refine s_nil ?_ | refine s_move (by exact rfl) (by exact rfl) ?_ | refine s_assign (by exact rfl) (by exact rfl) ?_ | refine s_not (by exact rfl) (by exact rfl) ?_ | refine c_ret ?_ | refine k_then_ret ?_ | refine k_blk_ret ?_ | refine c_cond_t (by exact rfl) ?_ | fail
    refine ret1 [] rfl rfl rfl ⟨by rw [e], rfl⟩
  · rw [decide_eq_true (h2 k (by omega))]
    repeat' first
      | refine k_then ?_ | refine c_region ?_ | refine s_nil ?_ | refine s_move (by exact rfl) (by exact rfl) ?_ | refine s_assign (by exact rfl) (by exact rfl) ?_ | refine s_add (by exact rfl) (by exact rfl) (by exact rfl) (by omega) ?_ | refine s_not (by exact rfl) (by exact rfl) ?_ | refine c_skip ?_ | refine k_blk ?_ | refine c_cond_f (by exact rfl) ?_ | fail
    refine c_round (k + 1) [] (by exact rfl) ⟨rfl, rfl, trivial⟩ (by omega) (by omega)
end Go.Proofs.YtpajjnkmaebhcabGreat
end
section
set_option linter.unusedVariables false
namespace Fil
end Fil
end
section
set_option linter.unusedVariables false
namespace Go.Proofs
open Go Go.RowKit Go.Maps Go.Sl
end Go.Proofs
namespace Go.Proofs.YtpajjnkmaebhcabGreat
open Go Go.RowKit Go.Sl Fil
/-- what Plane answers, from here on -/
def PlaneIs (n : Int) (v vr : Value) (K : Int) (w : World) : Prop := ∀ w' S', Mod w No w' S' → Calls Tryz.prog 32 #[.agg #[.int .i64 n, v], vr] w' (Post w' No (Just (.int .i64 K)))
theorem PlaneIs.old {w0 w : World} {n : Int} {v vr : Value} {K : Int} {L : List HP} (h : PlaneIs n v vr K w0) (hs : St w0 No L w) : PlaneIs n v vr K w := hs.mod0.elim fun _ hm w' S' hm2 => h w' _ (mod_trans0 hm hm2)
theorem PlaneIs.here {w : World} {n : Int} {v vr : Value} {K : Int} (h : PlaneIs n v vr K w) : Calls Tryz.prog 32 #[.agg #[.int .i64 n, v], vr] w (Post w No (Just (.int .i64 K))) := h w _ (Mod.refl _ _)
set_option maxRecDepth 100000
set_option maxHeartbeats 8000000
set_option linter.unusedVariables false
set_option linter.unusedSimpArgs false
attribute [local irreducible] Code.wp wpList bodyPost wpQuiet Exit.then Exit.inBlock Post wpAnyH wpOp
end Go.Proofs.YtpajjnkmaebhcabGreat
end
section
set_option linter.unusedVariables false
namespace Go.Sl
open Go Go.RowKit
instance {l : Nat} {P : Program} {R : Ending → World → Prop} : PO (roundPost P l R) := ⟨fun _ _ _ _ _ h => h⟩
instance : PO (fun _ _ _ => False) := ⟨fun _ _ _ _ _ h => h⟩
def noPanic (Q : Exit → Act → World → Prop) : Exit → Act → World → Prop
  | .panic _, _, _ => False
  | e, a, w => Q e a w
instance {Q : Exit → Act → World → Prop} : PO (noPanic Q) := ⟨fun _ _ _ _ _ h => h⟩
section
variable {P : Program} {w0 : World} {S0 : FS} {n m : Nat} {F : List (Nat × Value)} {L Lk : List HP} {ops : Array Oper} {Q : Exit → Act → World → Prop} {ro : Option Nat}
theorem c_nopanic {c : Code} (h : Reach w0 S0 n F L (c.wp P (noPanic Q))) : Reach w0 S0 n F L (c.wp P Q) := fun a w hf hs => Code.wp_mono (fun e a w he => by
  cases e with
  | panic => exact he.elim
  | _ => exact he) (h a w hf hs)
theorem cutnp_end {X : Type} {I : X → Prop} {IF : X → List (Nat × Value)} {IL : X → List HP} (x : X) (is : List Nat) (hL : pick L is = some (IL x)) (hF : covers F (IF x)) (hI : I x) : Reach w0 S0 n F L (noPanic (cutQ w0 S0 n I IF IL Q) .normal) := cut_end (Q := Q) x is hL hF hI
theorem ops_in [T : NL Q] (hd : ∀ (i : Nat) o, ops[i]? = some o → noDef o = true) : ∀ (is : List Nat) (a : Act) (w : World), wpOps P ops Q is a w → wpOpsIn (RF ro) m P ops Q is a w
  | [], a, w, h => h
  | i :: is, a, w, h => by
    have ih := ops_in hd is
    simp only [wpOps] at h
    simp only [wpOpsIn]
    split
    · rename_i ho
      simp only [ho] at h
      exact ih _ _ h
    · rename_i o ho
      simp only [ho] at h
      split
      · rename_i hw
        rw [if_pos hw] at h
        rcases h with h | ⟨_, h⟩
        · exact up_in (hd i o ho) (fun ⟨a, w, h⟩ => T.no ⟨a, w, h⟩) (fun c a w h => h) ih h
        · exact (T.no (by obtain ⟨a, w, h⟩ := h; exact ⟨a, w, h⟩)).elim
      · rename_i hw
        rw [if_neg hw] at h
        exact ⟨fun _ _ => trivial, ih _ _ h⟩
theorem xp_begin [T : PO Q] [NL Q] {id : Nat} {l : List Oper} (plan : List PI) (Lk : List HP) (hd : l.all noDef = true) (hm : (P.follows .mixedOrders && Region.noSelect l.toArray && planOk l.toArray (Array.replicate l.toArray.size false) plan && (planLen plan == l.toArray.size)) = true)
    (h : RP P w0 S0 n l.toArray Q Lk plan F L) : Reach w0 S0 n F L ((Code.region id l.toArray true).wpIn (RF ro) m P Q) := by
  simp only [Bool.and_eq_true, beq_iff_eq] at hm
  obtain ⟨⟨⟨h1, h2⟩, h3⟩, h4⟩ := hm
  intro a w hf hs
  refine wpIn_region_draw fun t => ?_
  refine ops_in (fun i o ho => ?_) _ _ _ ?_
  · rw [List.all_eq_true] at hd
    exact hd o (List.mem_of_getElem? (by simpa using ho))
  · have := pw_sound (P := P) (Q := Q) (S := St w0 S0 Lk) h2 plan _ a _ h3 (h a { w with drawn := w.drawn + 1 } hf hs.drew)
    rw [h4] at this
    simp only [Region.schedule, h1, Bool.true_or, if_true]
    exact wpAny_sound _ t _ a _ (wpAny_of_held _ _ _ _ this)
end
end Go.Sl
end
section
set_option linter.unusedVariables false
set_option linter.unusedSimpArgs false
namespace Go.Proofs.YtpajjnkmaebhcabGreat
open Go Go.RowKit Go.Sl Fil
set_option maxRecDepth 100000
set_option maxHeartbeats 8000000
set_option linter.unusedVariables false
set_option linter.unusedSimpArgs false
attribute [local irreducible] Code.wp wpList bodyPost wpQuiet Exit.then Exit.inBlock Post wpAnyH wpOp
theorem Five_ok (n : Int) (v : Value) (es : List E) (vr : Value) (hr0 : List Value) (R : List (List Nat)) (o lab : Nat → Nat) (w : World) (hs : Shp v es.length) (hr : RO w No v (esV es)) (hG : RightG n es) (hR : ROs w No vr hr0 R) (hRot : RotL n.toNat (tn es) R) (hL : Lev n.toNat (nb (tn es)) o lab) (hP : PlaneIs n v vr 0 w) (hp : planeR n.toNat (tn es) lab R = 0) (h40 : n ≤ 40) :
    Calls Tryz.prog 12 #[.agg #[.int .i64 n, v], vr] w (Post w No fun r L' => ∃ (vo : Value) (c : List Nat), r = .tuple #[vo, .int .i64 0] ∧ c.length = n.toNat ∧ (∀ u, u < n.toNat → c.getD u 0 < 5) ∧ (∀ u, u < n.toNat → ∀ x ∈ rf R u, c.getD u 0 ≠ c.getD x 0) ∧ L' = [rowHP vo 3 1 n.toNat (nV c)]) := by
  have hsr := hR.shp
  have hrr := hR.ro
  have hlo := hG.lo
  have hF := flat_of hG hRot hL hp
  have hS0 := shr_begin (by omega) hG hRot
  have hlen := hRot.len
  have hsys := hRot.sys hG
  have hrlt : ∀ u x, x ∈ rf R u → x < n.toNat ∧ u < n.toNat := fun u x h => hRot.lt hG h
  refine enterM0 (vs := [_, _]) Tryz.func12 rfl Tryz.ntmps12 rfl ?_
  repeat' first
    | refine k_then ?_ | refine c_seq ?_ | refine c_region ?_ | refine s_nil ?_ | refine s_move (by exact rfl) (by exact rfl) ?_ | refine s_assign (by exact rfl) (by exact rfl) ?_ | refine s_ldk_box (by exact rfl) (by exact rfl) (by exact .head _) (by exact rfl) (by exact rfl) ?_ | refine o_box (by exact rfl) (by exact rfl) (fun b => ?_) | fail
  revert b; intro bg
  refine s_call (vs := [.agg #[.int .i64 n, v], vr]) (by exact rfl) (by exact rfl) (fun w h => (hP.old h).here) ?_
  repeat' first
    | refine k_then ?_ | refine c_seq ?_ | refine c_region ?_ | refine s_nil ?_ | refine s_move (by exact rfl) (by exact rfl) ?_ | refine s_assign (by exact rfl) (by exact rfl) ?_ | refine s_neq (by exact rfl) (by exact rfl) (by exact rfl) ?_ | refine c_skip ?_ | (refine c_cond_p (by exact rfl) (fun h => ?_) (fun h => ?_) <;> try (exfalso; omega)) | fail
  obtain ⟨N, rfl⟩ : ∃ N : Nat, n = (N : Int) := ⟨n.toNat, by omega⟩
  simp only [Int.toNat_natCast] at *
  have hvc : (Value.agg #[.int .i64 (N : Int), v]).cells.toList = [.int .i64 (N : Int), v] := by simp [Value.cells, one_cells hs.one]
  rw [hvc]
  refine c_cut (X := Value × Value × Nat) (fun _ => True) (fun x => [(1, vr), (2, .pointer (some ⟨bg, 0, none⟩)), (7, .pointer (some ⟨x.2.2, 0, none⟩))]) (fun x => [boxHP x.2.2 61 (x.1 :: x.2.1 :: ((List.replicate 6 (.slice none 0 0)) ++ [.slice none 0 0])), rowHP x.1 62 1 N (List.replicate N (.map none)), rowHP x.2.1 4 1 N (bV (List.replicate N false)), boxHP bg 24 [.int .i64 (N : Int), v]]) ?_ ?_
  · refine c_nopanic ?_
    refine p_begin [(0, true), (1, true), (3, true), (4, true), .rd 2 5, (6, true), (7, false), (8, true)] [boxHP bg 24 [.int .i64 (N : Int), v]] (by kernel_rfl) ?_
    repeat' first
      | (refine p_at (by exact rfl) ?_
         first
          | refine t_fa (by exact rfl) (by exact rfl) (by exact fun _ h => h) ?_ | refine t_ld_box (by exact rfl) (by exact rfl) (by exact .head _) (by exact rfl) (by exact fun _ h => h) ?_ | fail)
      | fail
    have hz1 : (madeCells (Value.map none).cells ((N : Int).toNat * 1)).toList = List.replicate N (.map none) := by rw [made1 rfl]; simp
    have hz2 : (madeCells (Value.bool false).cells ((N : Int).toNat * 1)).toList = bV (List.replicate N false) := by rw [made1 rfl]; simp [bV]
    have hbd : ∀ va vb : Value, va.oneCell' = true → vb.oneCell' = true → ∀ q ∈ [(0, va, [va]), (1, vb, [vb])], (q : Nat × Value × List Value).2.1.cells.toList = q.2.2 := by
      intro va vb h1 h2 q hq
      simp only [List.mem_cons, List.not_mem_nil, or_false] at hq
      rcases hq with rfl | rfl
      · exact one_cells h1
      · exact one_cells h2
    have hcell : ∀ va vb : Value, va.oneCell' = true → vb.oneCell' = true → (Value.agg (va :: vb :: (List.replicate 6 (.slice none 0 0) ++ [.slice none 0 0])).toArray).cells.toList = va :: vb :: (List.replicate 6 (.slice none 0 0) ++ [.slice none 0 0]) := fun va vb h1 h2 => by
      simp [Value.cells, one_cells h1, one_cells h2, List.replicate]
    refine p_rd ?_ ?_
    · refine p_make (bytes := 8) (by exact rfl) (by exact rfl) (by exact rfl) (by exact rfl) (by omega) (by omega) (fun _ _ h => h.tl) fun vn hvn => ?_
      refine p_make (bytes := 1) (by exact rfl) (by exact rfl) (by exact rfl) (by exact rfl) (by omega) (by omega) (fun _ _ h => h.tl.tl) fun vg hvg => ?_
      rw [hz1, hz2]
      refine p_buildt (cs := vn :: vg :: (List.replicate 6 (.slice none 0 0) ++ [.slice none 0 0])) [(0, vn, [vn]), (1, vg, [vg])] (by exact rfl) (by exact rfl) (by exact rfl) (hbd vn vg hvn.one hvg.one) ?_ (fun _ h => h.tl.tl) ?_
      · exact rfl
      refine p_box (by exact rfl) (by exact rfl) (by exact rfl) (fun _ _ h => h.tl.tl.tl) fun fb => ?_
      repeat' first
        | refine p_nil ?_
        | (refine p_at (by exact rfl) ?_
           first
            | refine t_assign (by exact rfl) (by exact rfl) (by exact fun _ h => h.tl.tl.tl) ?_ | fail)
        | fail
      rw [hcell vn vg hvn.one hvg.one]
      exact cutnp_end (vn, vg, fb) [0, 1, 0, 0] (by exact rfl) ⟨rfl, rfl, rfl, trivial⟩ trivial
    · refine p_make (bytes := 1) (by exact rfl) (by exact rfl) (by exact rfl) (by exact rfl) (by omega) (by omega) (fun _ _ h => h.tl) fun vg hvg => ?_
      refine p_make (bytes := 8) (by exact rfl) (by exact rfl) (by exact rfl) (by exact rfl) (by omega) (by omega) (fun _ _ h => h.tl.tl) fun vn hvn => ?_
      rw [hz1, hz2]
      refine p_buildt (cs := vn :: vg :: (List.replicate 6 (.slice none 0 0) ++ [.slice none 0 0])) [(0, vn, [vn]), (1, vg, [vg])] (by exact rfl) (by exact rfl) (by exact rfl) (hbd vn vg hvn.one hvg.one) ?_ (fun _ h => h.tl.tl) ?_
      · exact rfl
      refine p_box (by exact rfl) (by exact rfl) (by exact rfl) (fun _ _ h => h.tl.tl.tl) fun fb => ?_
      repeat' first
        | refine p_nil ?_
        | (refine p_at (by exact rfl) ?_
           first
            | refine t_assign (by exact rfl) (by exact rfl) (by exact fun _ h => h.tl.tl.tl) ?_ | fail)
        | fail
      rw [hcell vn vg hvn.one hvg.one]
      exact cutnp_end (vn, vg, fb) [0, 0, 0, 0] (by exact rfl) ⟨rfl, rfl, rfl, trivial⟩ trivial
  · rintro ⟨vn, vg, fb⟩ -
    dsimp only
    refine know_row (v := vn) (by exact .tail _ (.head _)) fun hvn _ => ?_
    refine know_row (v := vg) (by exact .tail _ (.tail _ (.head _))) fun hvg _ => ?_
    let G : Nat → Nat → Option (List Nat) := fun i u => if u < i then some (rf R u) else none
    refine c_nilmaps N ?_
    refine c_star0 ?_
    refine c_nils 3 1 6 ?_
    refine c_nil 68 3 ?_
    repeat' first
      | refine k_then ?_ | refine c_seq ?_ | refine c_region ?_ | refine s_nil ?_ | refine s_move (by exact rfl) (by exact rfl) ?_ | refine s_len (by exact rfl) (by exact rfl) (by assumption) ?_ | refine c_block ?_ | fail
    refine c_loop (fun x : Nat × List Value × List Value => x.1 ≤ N ∧ x.2.1.length = N ∧ x.2.2.length = 6) (fun x => [(2, .pointer (some ⟨bg, 0, none⟩)), (7, .pointer (some ⟨fb, 0, none⟩)), (32, vr), (33, .int .i64 (N : Int)), (34, .int .i64 (x.1 : Int))]) (fun x => fldO fb vn vg (.slice none 0 0) x.2.1 x.2.2 [] N ((List.range N).map (G x.1)) (List.replicate N false) (few0 R x.1) [] ++ [boxHP bg 24 [.int .i64 (N : Int), v]]) (fun x => N - x.1) (0, List.replicate N (.map none), List.replicate 6 (.slice none 0 0)) [4, 4, 3, 3, 1, 0, 0, 0] ⟨by dsimp only; omega, by simp, by simp⟩ ?_ ?_ ?_
    · dsimp only
      rw [show (List.range N).map (G 0) = List.replicate N none from by
        rw [List.eq_replicate_iff]
        exact ⟨by simp, fun x hx => by
          obtain ⟨w, _, rfl⟩ := List.mem_map.1 hx
          simp [G]⟩]
      rfl
    · rw [hlen]
      exact ⟨rfl, rfl, rfl, rfl, rfl, trivial⟩
    · rintro ⟨i, hf, fs⟩ ⟨hi, hfl, hfs⟩
      dsimp only at hi hfl hfs ⊢
      by_cases hil : i < N
      · obtain ⟨hd, hhd⟩ : ∃ hd, hr0[i]? = some hd := ⟨_, List.getElem?_eq_getElem (by have := hR.len; omega)⟩
        have hhd1 : hr0[i * 1]? = some hd := by simpa using hhd
        have hRi : R[i]? = some (rf R i) := by rw [rf, List.getD_eq_getElem?_getD, List.getElem?_eq_getElem (by omega)]; rfl
        obtain ⟨hsx, hrx⟩ := hR.kid i hd (rf R i) hhd hRi
        have hAi : (rf R i).length ≤ N := nodup_length (hsys.nd i) fun x hx => (hrlt i x hx).1
        have hvN : Shp vr N := by rw [← hlen]; exact hsr
        rw [fldO]
        repeat' first
          | refine k_then ?_ | refine c_seq ?_ | refine c_region ?_ | refine s_nil ?_ | refine s_move (by exact rfl) (by exact rfl) ?_ | refine s_assign (by exact rfl) (by exact rfl) ?_ | refine s_fa (by exact rfl) (by exact rfl) ?_ | refine s_ld_box (by exact rfl) (by exact rfl) (by exact .head _) (by exact rfl) ?_ | refine s_lss (by exact rfl) (by exact rfl) (by exact rfl) ?_ | refine s_idx (by exact rfl) (by exact rfl) (by exact rfl) (by assumption) (by first | assumption | omega) ?_ | refine s_ld_ro (by exact rfl) (by exact rfl) (by assumption) (by assumption) ?_ | refine c_block ?_ | refine c_skip ?_ | (refine c_cond_p (by exact rfl) (fun h => ?_) (fun h => ?_) <;> try (exfalso; omega)) | refine s_nilc (by exact rfl) (by exact rfl) ?_ | fail
        refine o_makeMap (by exact rfl) fun b => ?_
        repeat' first
          | refine s_idx (by exact rfl) (by exact rfl) (by exact rfl) (by assumption) (by first | assumption | omega) ?_ | fail
        refine o_st_row (i := 2) (by exact rfl) (by exact rfl) (by exact rfl) rfl (by omega) ?_
        repeat' first
          | refine k_then ?_ | refine c_seq ?_ | refine c_region ?_ | refine s_nil ?_ | refine s_move (by exact rfl) (by exact rfl) ?_ | refine s_len (by exact rfl) (by exact rfl) (by assumption) ?_ | refine c_block ?_ | fail
        refine c_give 2 i (by exact rfl) (by simp [kids, hfl, hil]) ?_
        refine c_loop (fun j : Nat => j ≤ (rf R i).length) (fun j => [(2, .pointer (some ⟨bg, 0, none⟩)), (7, .pointer (some ⟨fb, 0, none⟩)), (32, vr), (33, .int .i64 (N : Int)), (34, .int .i64 (i : Int)), (8, .int .i64 (i : Int)), (46, hd), (47, .int .i64 ((rf R i).length : Int)), (48, .int .i64 (j : Int))])
          (fun j => [boxHP fb 61 (vn :: vg :: (fs ++ [.slice none 0 0])), rowHP vn 62 1 N (hf.set i (.map (some b))), starHP ((kids mapK hf ((List.range N).map (G i))).set i (mapHP ekI Value.bool okI (.map (some b)) (setN ((rf R i).take j)))), rowHP vg 4 1 N (bV (List.replicate N false)), starHP (kids rowN fs (few0 R i)), rowHP (.slice none 0 0) 68 3 0 [], starHP [], boxHP bg 24 [.int .i64 (N : Int), v]]) (fun j => (rf R i).length - j) 0 [0, 0, 0, 0, 0, 0, 0, 0] (Nat.zero_le _) (by rw [Nat.mul_one]; exact rfl) ⟨rfl, rfl, rfl, rfl, rfl, rfl, rfl, rfl, rfl, trivial⟩ ?_
        intro j hj
        have hbk : (hf.set i (.map (some b)))[i * 1]? = some (.map (some b)) := by simp [hfl, hil]
        by_cases hjl : j < (rf R i).length
        · obtain ⟨x, hx⟩ : ∃ x, (rf R i)[j]? = some x := ⟨_, List.getElem?_eq_getElem hjl⟩
          have hxN := (hrlt i x (List.mem_of_getElem? hx)).1
          have hcx : (nV (rf R i))[j * 1]? = some (.int .i64 (x : Int)) := by rw [Nat.mul_one, nV, List.getElem?_map, hx]; rfl
          have htk : (rf R i).take (j + 1) = (rf R i).take j ++ [x] := by rw [List.take_add_one, hx]; rfl
          have hxn : x ∉ (rf R i).take j := fun h => by
            have hn' := hsys.nd i
            rw [← List.take_append_drop j (rf R i)] at hn'
            have h2 : x ∈ (rf R i).drop j := by
              obtain ⟨h3, h4⟩ := List.getElem?_eq_some_iff.1 hx
              rw [List.drop_eq_getElem_cons h3, h4]; simp
            exact (List.nodup_append.1 hn').2.2 x h x h2 rfl
          repeat' first
            | refine k_then ?_ | refine c_seq ?_ | refine c_region ?_ | refine s_nil ?_ | refine s_move (by exact rfl) (by exact rfl) ?_ | refine s_assign (by exact rfl) (by exact rfl) ?_ | refine s_fa (by exact rfl) (by exact rfl) ?_ | refine s_ld_box (by exact rfl) (by exact rfl) (by exact .head _) (by exact rfl) ?_ | refine s_lss (by exact rfl) (by exact rfl) (by exact rfl) ?_ | refine s_idx (by exact rfl) (by exact rfl) (by exact rfl) (by assumption) (by first | assumption | omega) ?_ | refine s_ld_ro (by exact rfl) (by exact rfl) (by assumption) (by assumption) ?_ | refine s_ld_row (by exact rfl) (by exact rfl) (by exact .tail _ (.head _)) (by assumption) ?_ | refine c_block ?_ | refine c_skip ?_ | (refine c_cond_p (by exact rfl) (fun h => ?_) (fun h => ?_) <;> try (exfalso; omega)) | refine s_nilc (by exact rfl) (by exact rfl) ?_ | fail
          refine c_take 2 i (by exact rfl) (by rw [List.getElem?_set_self (by simp [kids, hfl, hil])]) ?_
          refine o_mapup (x : Int) true (by exact rfl) (by exact rfl) (by exact rfl) (i := 0) (by exact rfl) rfl rfl ⟨by omega, by omega⟩ ?_
          rw [putK_setN hxn, ← htk]
          repeat' first
            | refine k_then ?_ | refine c_region ?_ | refine s_nil ?_ | refine s_move (by exact rfl) (by exact rfl) ?_ | refine s_add (by exact rfl) (by exact rfl) (by exact rfl) (by omega) ?_ | refine k_blk ?_ | fail
          refine c_give (L := [_, _, _, _, _, _, _, _]) 2 i (by exact rfl) (by simp [kids, hfl, hil]) ?_
          refine c_round (j + 1) [0, 0, 0, 0, 0, 0, 0, 0] (by rw [List.set_set, List.set_set]; rfl) (by exact ⟨rfl, rfl, rfl, rfl, rfl, rfl, rfl, rfl, rfl, trivial⟩) (by omega) (by omega)
        · repeat' first
            | refine k_then ?_ | refine c_seq ?_ | refine c_region ?_ | refine s_nil ?_ | refine s_move (by exact rfl) (by exact rfl) ?_ | refine s_lss (by exact rfl) (by exact rfl) (by exact rfl) ?_ | refine c_exit ?_ | refine k_then_exit ?_ | refine k_blk_eq ?_ | (refine c_cond_p (by exact rfl) (fun h => ?_) (fun h => ?_) <;> try (exfalso; omega)) | fail
          obtain rfl : j = (rf R i).length := by omega
          rw [List.take_length, show (kids mapK hf ((List.range N).map (G i))).set i (mapHP ekI Value.bool okI (.map (some b)) (setN (rf R i))) = kids mapK (hf.set i (.map (some b))) ((List.range N).map (G (i + 1))) from by
            rw [← range_set (g := G i) (g' := G (i + 1)) (i := i) (fun u _ hu => by
              simp only [G]
              by_cases h1 : u < i
              · rw [if_pos h1, if_pos (by omega)]
              · rw [if_neg h1, if_neg (by omega)]), ← kids_put]
            simp only [G, if_pos (Nat.lt_succ_self i)]
            rfl]
          obtain ⟨w1, w2, w3⟩ := few0_ok R i
          refine s_lend (vs := [.pointer (some ⟨fb, 0, none⟩), .int .i64 (i : Int)]) (fldO fb vn vg (.slice none 0 0) (hf.set i (.map (some b))) fs [] N ((List.range N).map (G (i + 1))) (List.replicate N false) (few0 R i) []) [boxHP bg 24 [.int .i64 (N : Int), v]] (by exact rfl) (by exact rfl) (by exact rfl) (fun w S h => fsortO_ok fb vn vg (.slice none 0 0) (hf.set i (.map (some b))) fs [] N ((List.range N).map (G (i + 1))) (rf R i) (List.replicate N false) (few0 R i) [] i w S h.own (by simp [G, hil]) (by simp) (by simpa using hfl) hfs w1 (fun l hl => by have := (w2 l hl).1; omega)) ?_
          rintro _ _ ⟨rfl, fs2, hfs2, rfl⟩
          repeat' first
            | refine k_then ?_ | refine c_region ?_ | refine s_nil ?_ | refine s_move (by exact rfl) (by exact rfl) ?_ | refine s_add (by exact rfl) (by exact rfl) (by exact rfl) (by omega) ?_ | refine k_blk ?_ | fail
          refine c_round (i + 1, hf.set i (.map (some b)), fs2) [0, 0, 0, 0, 0, 0, 0, 0] (by exact rfl) ⟨rfl, rfl, rfl, rfl, rfl, trivial⟩ ⟨by dsimp only; omega, by simpa using hfl, hfs2⟩ (by dsimp only; omega)
      · repeat' first
          | refine k_then ?_ | refine c_seq ?_ | refine c_region ?_ | refine s_nil ?_ | refine s_move (by exact rfl) (by exact rfl) ?_ | refine s_lss (by exact rfl) (by exact rfl) (by exact rfl) ?_ | refine c_exit ?_ | refine k_then_exit ?_ | refine k_blk_eq ?_ | (refine c_cond_p (by exact rfl) (fun h => ?_) (fun h => ?_) <;> try (exfalso; omega)) | fail
        obtain rfl : i = N := by omega
        have hAll : (List.range i).map (G i) = R.map some := by
          apply List.ext_getElem?
          intro k
          rw [List.getElem?_map, List.getElem?_map]
          by_cases hk : k < i
          · rw [List.getElem?_range hk, List.getElem?_eq_getElem (by omega)]
            simp only [Option.map_some, G, if_pos hk, rf, List.getD_eq_getElem?_getD, List.getElem?_eq_getElem (show k < R.length by omega), Option.getD_some]
          · rw [List.getElem?_eq_none (by simp; omega), List.getElem?_eq_none (by omega)]; rfl
        rw [hAll, fldO_some]
        refine s_lend (vs := [.pointer (some ⟨fb, 0, none⟩)]) (fldL fb vn vg (.slice none 0 0) hf fs [] i R (List.replicate i false) (few0 R i) []) [boxHP bg 24 [.int .i64 (i : Int), v]] (by exact rfl) (by exact rfl) (by exact rfl) (fun w S h => fshrink_ok (rf R) (rf R) (fun u => decide (u < i)) fb vn vg (.slice none 0 0) hf fs [] i R (List.replicate i false) (few0 R i) [] w S h.own hfl hfs rfl hF (by omega) hS0) ?_
        rintro _ _ ⟨rfl, vst, fs2, ns, As, few, gone, st, hfs2, hns, hstN, hplan, rfl⟩
        obtain ⟨hc5, hcne⟩ := hplan.ok
        have hslt := hplan.lt
        clear hS0 hF hplan hAll
        rw [fldL]
        refine know_row (v := vst) (by exact .tail _ (.tail _ (.tail _ (.tail _ (.tail _ (.head _)))))) fun hvst _ => ?_
        repeat' first
          | refine k_then ?_ | refine c_seq ?_ | refine c_region ?_ | refine s_nil ?_ | refine s_fa (by exact rfl) (by exact rfl) ?_ | refine s_ld_box (by exact rfl) (by exact rfl) (by exact .tail _ (.tail _ (.tail _ (.tail _ (.tail _ (.tail _ (.tail _ (.head _)))))))) (by exact rfl) ?_ | fail
        refine o_make (by exact rfl) (by exact rfl) (by exact rfl) (by omega) (by omega) fun vo hvo => ?_
        rw [made1 rfl]
        repeat' first
          | refine o_alloc (by exact rfl) (fun b => ?_) | fail
        refine o_st_box (i := 0) (by exact rfl) (by exact rfl) (by exact rfl) hvo.one (by simp [Value.cells]) ?_
        have hcell8 : (vn :: vg :: (fs2 ++ [vst]))[0 + 8]? = some vst := by
          rw [show 0 + 8 = 6 + 1 + 1 by omega, List.getElem?_cons_succ, List.getElem?_cons_succ, List.getElem?_append_right (by omega), hfs2]; rfl
        repeat' first
          | refine k_then ?_ | refine c_seq ?_ | refine c_region ?_ | refine s_nil ?_ | refine s_move (by exact rfl) (by exact rfl) ?_ | refine s_fa (by exact rfl) (by exact rfl) ?_ | refine s_nilc (by exact rfl) (by exact rfl) ?_ | fail
        refine s_ld_box (by exact rfl) (by exact rfl) (.tail _ (.tail _ (.head _))) hcell8 ?_
        skip
        refine o_call (by exact rfl) (by exact rfl) (fun w h => CBackward_ok vst w hvst.one) ?_
        rintro _ _ ⟨bq, rfl, rfl⟩
        have e0 : nV (colF i (st.drop (st.length - 0))) = List.replicate i (.int .i64 0) := by rw [Nat.sub_zero, List.drop_length]; simp [colF, nV]
        repeat' first
          | refine k_then ?_ | refine s_nil ?_ | refine c_block ?_ | fail
        refine c_pick [1, 1, 7, 0, 5] (by exact rfl) ?_
        refine c_range (ps := [75, 76]) 67 [.pointer (some ⟨bq, 0, none⟩)] [_, _, _] [boxHP bq 59 [vst], rowHP vst 68 3 st.length (stpV st ns)] st.length (fun k => [.int .i64 ((st.length : Int) - 1 - (k : Int)), .agg #[.int .i64 ((st.getD (st.length - 1 - k) (0, 0, [])).1 : Int), .int .i64 (st.getD (st.length - 1 - k) (0, 0, [])).2.1, ns.getD (st.length - 1 - k) undef]]) (fun k M => k ≤ st.length ∧ M = [boxHP b 28 [vo], rowHP vo 3 1 i (nV (colF i (st.drop (st.length - k)))), starHP (kids rowN ns (st.map fun s => s.2.2))]) (by exact rfl) (by exact rfl) (by exact rfl) (fun _ => rfl) (fun w S M h => cback1_ok bq vst st ns w S (h.rb_own (.head _)) hvst hns (h.ro_own (.tail _ (.head _))) (by omega)) ⟨Nat.zero_le _, ?_⟩ ?_ ?_
        · rw [e0]; rfl
        · rintro k _ _ W S l D r m hk ⟨hkl, rfl⟩ rfl hlent hst2
          obtain ⟨j, hj⟩ : ∃ j, st.length - 1 - k = j := ⟨_, rfl⟩
          have hjl : j < st.length := by omega
          obtain ⟨s, hsj⟩ : ∃ s, st[j]? = some s := ⟨_, List.getElem?_eq_getElem hjl⟩
          obtain ⟨hx, hhx⟩ : ∃ h, ns[j]? = some h := ⟨_, List.getElem?_eq_getElem (by omega)⟩
          have hgx : st.getD j (0, 0, []) = s := by rw [List.getD_eq_getElem?_getD, hsj]; rfl
          have hgh : ns.getD j undef = hx := by rw [List.getD_eq_getElem?_getD, hhx]; rfl
          have hdr : st.drop (st.length - (k + 1)) = s :: st.drop (st.length - k) := by
            obtain ⟨h1, h2⟩ := List.getElem?_eq_some_iff.1 hsj
            rw [show st.length - (k + 1) = j by omega, List.drop_eq_getElem_cons h1, h2, show st.length - k = j + 1 by omega]
          have hcol : colF i (st.drop (st.length - (k + 1))) = stepC s (colF i (st.drop (st.length - k))) := by rw [hdr]; rfl
          obtain ⟨s1, s2, s3, s4⟩ := hslt s (List.mem_of_getElem? hsj)
          have hcl := colF_length i (st.drop (st.length - k))
          have hvoi : Shp vo i := hvo
          rw [show (st.length : Int) - 1 - (k : Int) = (j : Int) by omega, hj, hgx, hgh]
          simp only [List.zip_cons_cons, List.zip_nil_left, List.reverse_cons, List.reverse_nil, List.nil_append, List.cons_append]
          have hK : rowHP hx 3 1 s.2.2.length (nV s.2.2) ∈ kids rowN ns (st.map fun s => s.2.2) := kids_mem (f := rowN) (l := s.2.2) hhx (by rw [List.getElem?_map, hsj]; rfl)
          refine know_kid (Ks := kids rowN ns (st.map fun s => s.2.2)) (.tail _ (.tail _ (.tail _ (.tail _ (.head _))))) hK fun hhx1 _ => ?_
          generalize colF i (st.drop (st.length - k)) = c at *
          repeat' first
            | refine o_alloc (by exact rfl) (fun b => ?_) | refine x_region (by exact rfl) ?_ | fail
          revert b; intro b14
          refine o_stk_box (i := 0) (us := [.int .i64 (s.1 : Int), .int .i64 s.2.1, hx]) (by exact rfl) (by exact rfl) (by exact rfl) (by exact rfl) (by exact rfl) (by
            intro u hu
            simp only [List.mem_cons, List.not_mem_nil, or_false] at hu
            rcases hu with rfl | rfl | rfl
            · rfl
            · rfl
            · exact hhx1.one) (by simp [Value.cells]) ?_
          repeat' first
            | refine k_then ?_ | refine s_nil ?_ | fail
          refine r_begin (j := 1) (by exact rfl) hst2 ?_
          refine c_pick (M := [rowHP vo 3 1 i (nV c), boxHP b14 68 [.int .i64 (s.1 : Int), .int .i64 s.2.1, hx], boxHP b 28 [vo], starHP (kids rowN ns (st.map fun s => s.2.2)), objHP l (.loop { r with state := .busy }), objHP D (.deferred (some []))]) [4, 0, 2, 2, 0, 0] (by exact rfl) ?_
          repeat' first
            | refine k_then ?_ | refine s_nil ?_ | refine s_move (by exact rfl) (by exact rfl) ?_ | refine s_assign (by exact rfl) (by exact rfl) ?_ | refine s_fa (by exact rfl) (by exact rfl) ?_ | refine s_ld_box (by exact rfl) (by exact rfl) (by exact .tail _ (.head _)) (by exact rfl) ?_ | refine s_geq (by exact rfl) (by exact rfl) (by exact rfl) ?_ | refine s_len (by exact rfl) (by exact rfl) (by assumption) ?_ | refine x_seq ?_ | refine x_region (by exact rfl) ?_ | refine x_block ?_ | refine x_skip ?_ | (refine x_cond_p (by exact rfl) (fun h => ?_) (fun h => ?_) <;> try (exfalso; omega)) | fail
          · obtain ⟨q, hq⟩ : ∃ q : Nat, s.2.1 = (q : Int) := ⟨s.2.1.toNat, by omega⟩
            have hqN : q < i := by omega
            have hcq : (nV c)[q * 1]? = some (.int .i64 ((c.getD q 0 : Nat) : Int)) := by rw [Nat.mul_one, nV, List.getElem?_map, List.getD_eq_getElem?_getD, List.getElem?_eq_getElem (by omega)]; rfl
            have hstep : stepC s c = c.set s.1 (c.getD q 0) := by rw [stepC, if_pos h, hq]; rfl
            rw [hq]
            refine xp_begin [(0, true), (1, true), (2, true), (3, true), (4, true), (5, true), (6, true), (7, false), (8, true), (9, false)] [boxHP b14 68 [.int .i64 (s.1 : Int), .int .i64 (q : Int), hx], boxHP b 28 [vo], starHP (kids rowN ns (st.map fun s => s.2.2)), objHP l (.loop { r with state := .busy }), objHP D (.deferred (some []))] (by exact rfl) (by kernel_rfl) ?_
            repeat' first
              | (refine p_at (by exact rfl) ?_
                 first
                  | refine t_fa (by exact rfl) (by exact rfl) (by exact fun _ h => h.tl) ?_ | refine t_ld_box (by exact rfl) (by exact rfl) (by first | exact .head _ | exact .tail _ (.head _)) (by exact rfl) (by exact fun _ h => h.tl) ?_ | refine t_idx (by exact rfl) (by exact rfl) (by exact rfl) (by assumption) (by first | assumption | omega) (by exact fun _ h => h.tl) ?_ | refine r_ld_row (by exact rfl) (by exact rfl) (by exact .head _) (by assumption) (by exact fun _ h => h.tl) ?_ | fail)
              | fail
            refine p_st_row (j := 0) (by exact rfl) (by exact rfl) (by exact rfl) (by exact rfl) rfl (by omega) (by exact fun _ h => h.tl) ?_
            repeat' first
              | refine p_nil ?_ | fail
            repeat' first
              | refine k_then ?_ | refine k_then_exit ?_ | refine k_blk_eq ?_ | refine x_exit ?_ | fail
            refine r_end (j := 4) [4, 4, 2, 0, 1] rfl rfl fun W2 h2 => ⟨rfl, ?_⟩
            obtain ⟨S2, hm2, hl2⟩ := h2
            refine ⟨_, S2, ⟨_, ⟨by omega, rfl⟩, rfl⟩, hm2, ?_⟩
            have hset : (nV c).set (s.1 * 1) (.int .i64 ((c.getD q 0 : Nat) : Int)) = nV (c.set s.1 (c.getD q 0)) := by rw [Nat.mul_one, nV, nV, List.map_set]
            rw [hcol, hstep, ← hset]
            exact hl2
          · refine c_nil 3 1 ?_
            have hstep : stepC s c = c.set s.1 (leastK (cols c s.2.2)) := by rw [stepC, if_neg h]
            refine x_loop (fun x : Nat × Value => x.1 ≤ s.2.2.length) (fun x => [(12, .pointer (some ⟨b, 0, none⟩)), (14, .pointer (some ⟨b14, 0, none⟩)), (15, x.2), (90, hx), (91, .int .i64 (s.2.2.length : Int)), (92, .int .i64 (x.1 : Int))]) (fun x => [rowHP x.2 3 1 x.1 (iV (cols c (s.2.2.take x.1))), rowHP vo 3 1 i (nV c), boxHP b14 68 [.int .i64 (s.1 : Int), .int .i64 s.2.1, hx], boxHP b 28 [vo], starHP (kids rowN ns (st.map fun s => s.2.2)), objHP l (.loop { r with state := .busy }), objHP D (.deferred (some []))]) (fun x => s.2.2.length - x.1) (0, .slice none 0 0) [0, 0, 0, 0, 0, 0, 0] (Nat.zero_le _) (by exact rfl) ⟨rfl, rfl, rfl, rfl, rfl, rfl, trivial⟩ ?_
            rintro ⟨k2, vu⟩ hk2
            dsimp only at hk2 ⊢
            refine know_row (v := vu) (.head _) fun hvu _ => ?_
            by_cases hkl2 : k2 < s.2.2.length
            · obtain ⟨u, hu⟩ : ∃ u, s.2.2[k2]? = some u := ⟨_, List.getElem?_eq_getElem hkl2⟩
              have huN := s4 u (List.mem_of_getElem? hu)
              have hcu : (nV s.2.2)[k2 * 1]? = some (.int .i64 (u : Int)) := by simp [nV, hu]
              have hcv : (nV c)[u * 1]? = some (.int .i64 ((c.getD u 0 : Nat) : Int)) := by rw [Nat.mul_one, nV, List.getElem?_map, List.getD_eq_getElem?_getD, List.getElem?_eq_getElem (by omega)]; rfl
              have htk : iV (cols c (s.2.2.take (k2 + 1))) = iV (cols c (s.2.2.take k2)) ++ [.int .i64 ((c.getD u 0 : Nat) : Int)] := by rw [List.take_add_one, hu]; simp [iV, cols]
              repeat' first
                | refine k_then ?_ | refine s_nil ?_ | refine s_move (by exact rfl) (by exact rfl) ?_ | refine s_assign (by exact rfl) (by exact rfl) ?_ | refine s_ld_box (by exact rfl) (by exact rfl) (by exact .tail _ (.tail _ (.tail _ (.head _)))) (by exact rfl) ?_ | refine s_lss (by exact rfl) (by exact rfl) (by exact rfl) ?_ | refine s_idx (by exact rfl) (by exact rfl) (by exact rfl) (by assumption) (by first | assumption | omega) ?_ | refine s_ld_row (by exact rfl) (by exact rfl) (by exact .tail _ (.head _)) (by assumption) ?_ | refine s_ld_kid (by exact rfl) (by exact rfl) (by assumption) (by exact .tail _ (.tail _ (.tail _ (.tail _ (.head _))))) (by assumption) ?_ | refine x_seq ?_ | refine x_region (by exact rfl) ?_ | refine x_block ?_ | refine x_skip ?_ | (refine x_cond_p (by exact rfl) (fun h => ?_) (fun h => ?_) <;> try (exfalso; omega)) | fail
              refine o_mk [.int .i64 ((c.getD u 0 : Nat) : Int)] (by exact rfl) (by exact rfl) rfl ?_ ?_ (by simp) fun va hva => ?_
              · simp [Value.cells]
              · simp
              skip
              refine o_append_row (i := 1) (by exact rfl) (by exact rfl) (by exact rfl) (by exact rfl) (by exact .head _) (by exact rfl) (by simp [Value.cells, Value.oneCell']) (by omega) fun vu2 hvu2 => ?_
              repeat' first
                | refine k_then ?_ | refine s_nil ?_ | refine s_move (by exact rfl) (by exact rfl) ?_ | refine s_assign (by exact rfl) (by exact rfl) ?_ | refine s_add (by exact rfl) (by exact rfl) (by exact rfl) (by omega) ?_ | refine k_blk ?_ | refine x_region (by exact rfl) ?_ | fail
              refine c_round (k2 + 1, vu2) [1, 1, 1, 1, 1, 1, 1] (by dsimp only; rw [htk]; exact rfl) ⟨rfl, rfl, rfl, rfl, rfl, rfl, trivial⟩ (by dsimp only; omega) (by dsimp only; omega)
            · repeat' first
                | refine k_then ?_ | refine s_nil ?_ | refine s_lss (by exact rfl) (by exact rfl) (by exact rfl) ?_ | refine k_then_exit ?_ | refine k_blk_eq ?_ | refine x_seq ?_ | refine x_region (by exact rfl) ?_ | refine x_exit ?_ | (refine x_cond_p (by exact rfl) (fun h => ?_) (fun h => ?_) <;> try (exfalso; omega)) | fail
              obtain rfl : k2 = s.2.2.length := by omega
              rw [List.take_length]
              refine c_pick (M := [rowHP vo 3 1 i (nV c), rowHP vu 3 1 s.2.2.length (iV (cols c s.2.2)), boxHP b14 68 [.int .i64 (s.1 : Int), .int .i64 s.2.1, hx], boxHP b 28 [vo], starHP (kids rowN ns (st.map fun s => s.2.2)), objHP l (.loop { r with state := .busy }), objHP D (.deferred (some []))]) [1, 0, 0, 0, 0, 0, 0] (by exact rfl) ?_
              refine xp_begin [(0, true), (1, true), (2, true), (3, true), (4, false), (5, true), (6, false)] [rowHP vu 3 1 s.2.2.length (iV (cols c s.2.2)), boxHP b14 68 [.int .i64 (s.1 : Int), .int .i64 s.2.1, hx], boxHP b 28 [vo], starHP (kids rowN ns (st.map fun s => s.2.2)), objHP l (.loop { r with state := .busy }), objHP D (.deferred (some []))] (by exact rfl) (by kernel_rfl) ?_
              repeat' first
                | (refine p_at (by exact rfl) ?_
                   first
                    | refine t_move (by exact rfl) (by exact rfl) (by exact fun _ h => h.tl) ?_ | refine t_fa (by exact rfl) (by exact rfl) (by exact fun _ h => h.tl) ?_ | refine t_ld_box (by exact rfl) (by exact rfl) (by first | exact .tail _ (.head _) | exact .tail _ (.tail _ (.head _))) (by exact rfl) (by exact fun _ h => h.tl) ?_ | fail)
                | fail
              refine p_call (gd := none) (vs := [vu]) (by exact rfl) (by exact rfl) (by exact rfl) (fun w h => Least_ok vu (cols c s.2.2) w (by simpa [cols] using hvu) (ro_own h (.tail _ (.head _)))) (by exact fun _ h => h.tl) ?_
              repeat' first
                | (refine p_at (by exact rfl) ?_
                   first
                    | refine t_idx (by exact rfl) (by exact rfl) (by exact rfl) (by assumption) (by first | assumption | omega) (by exact fun _ h => h.tl) ?_ | fail)
                | fail
              refine p_st_row (j := 0) (by exact rfl) (by exact rfl) (by exact rfl) (by exact rfl) rfl (by omega) (by exact fun _ h => h.tl) ?_
              repeat' first
                | refine p_nil ?_ | fail
              repeat' first
                | refine k_blk ?_ | fail
              refine r_end (j := 5) [5, 5, 3, 0, 2] rfl rfl fun W2 h2 => ⟨rfl, ?_⟩
              obtain ⟨S2, hm2, hl2⟩ := h2
              refine ⟨_, S2, ⟨_, ⟨by omega, rfl⟩, rfl⟩, hm2, ?_⟩
              have hset : (nV c).set (s.1 * 1) (.int .i64 (leastK (cols c s.2.2) : Int)) = nV (c.set s.1 (leastK (cols c s.2.2))) := by rw [Nat.mul_one, nV, nV, List.map_set]
              rw [hcol, hstep, ← hset]
              exact hl2
        · rintro _ l D r ⟨-, rfl⟩
          rw [Nat.sub_self, List.drop_zero]
          refine know_row (v := vo) (.tail _ (.tail _ (.tail _ (.head _)))) fun hvo _ => ?_
          refine m_blk ?_
          refine m_then ?_
          refine m_seq ?_
          refine m_region (by exact rfl) ?_
          repeat' first
            | refine s_nil ?_ | refine s_assign (by exact rfl) (by exact rfl) ?_ | refine s_ld_box (by exact rfl) (by exact rfl) (by exact .tail _ (.tail _ (.head _))) (by exact rfl) ?_ | fail
          refine m_then ?_
          refine m_ret ?_
          refine m_end (j := 1) rfl ?_
          exact retL [.tmp 4, .tmp 5] [vo, .int .i64 0] [3] rfl ⟨res_tmp rfl, res_tmp rfl, trivial⟩ (by exact rfl) ⟨vo, colF i st, rfl, colF_length i st, fun u hu => hc5 u (by simpa using hu), fun u hu x hx => hcne u x (by simpa using hu) hx, rfl⟩
end Go.Proofs.YtpajjnkmaebhcabGreat
end
section
set_option linter.unusedVariables false
namespace Go.Proofs.YtpajjnkmaebhcabGreat
open Go Go.RowKit Go.Sl Fil
set_option maxRecDepth 100000
set_option maxHeartbeats 8000000
set_option linter.unusedVariables false
set_option linter.unusedSimpArgs false
attribute [local irreducible] Code.wp wpList bodyPost wpQuiet Exit.then Exit.inBlock Post wpAnyH wpOp
end Go.Proofs.YtpajjnkmaebhcabGreat
end
section
set_option linter.unusedVariables false
set_option linter.unusedSimpArgs false
namespace Go.Sl
open Go Go.RowKit
section
variable {P : Program} {w0 : World} {S0 : FS} {n : Nat} {F : List (Nat × Value)} {L : List HP} {o : Oper} {rest : List Oper} {ops : Array Oper} {Q : Exit → Act → World → Prop} {d : Nat} {v : Value} {ty : TypeId} {ps : String} {af : Array Edge}
theorem run_copyN {dT sT e : TypeId} {ty : TypeId} {p q : Option Addr} {dl dc sl sc : Nat} {w : World} (hu : P.underlying dT = some (.slice e)) (hs : (P.info? e).map (·.size) = some 1) (hn : Nat.min sl dl = 0) :
    (Builtin.copy_ #[dT, sT] ty #[.slice p dl dc, .slice q sl sc]).run P w = .ok (goInt 0) w := run_copy_none w dT sT ty e p q dl dc sl sc hu hs hn
theorem run_copyS {dT sT e : TypeId} {ty : TypeId} {g off dl dc sl sc : Nat} {a : Addr} {cs : List Value} {cur : Array Value} {t : TypeId} {w : World} (hu : P.underlying dT = some (.slice e)) (hs : (P.info? e).map (·.size) = some 1) (hn : cs.length = Nat.min sl dl)
    (hsrc : ∀ j v, cs[j]? = some v → w.cell? (a.add j) = some v) (hg : w.heap[g]? = some (.cells cur t (0, 0))) (hfit : off + cs.length ≤ cur.size) (h1 : ∀ v ∈ cs, v.oneCell' = true) :
    (Builtin.copy_ #[dT, sT] ty #[.slice (some ⟨g, off, none⟩) dl dc, .slice (some a) sl sc]).run P w = .ok (goInt cs.length) (setCells w g off cs) := by
  have hl := run_loadCells_list (P := P) w a cs hsrc
  have hst := storeCells_run (P := P) (b := g) (o := off) cs 0 w cur h1 hg (by simpa using hfit)
  cases hq : P.info? e with
  | none => simp [hq] at hs
  | some i =>
    have hi : i.size = 1 := by simpa [hq] using hs
    simp [Builtin.copy_, run_underlying hu, Builtin.lenOf, Builtin.firstCells, sizeOf, typeInfo, hq, hi, ← hn, hl, hst]
/-- into what lies from a on -/
theorem l_copy {R : Act → World → Prop} {x y : Operand} {t e : TypeId} {z s : Value} {bytes m a k i : Nat} {ys zs : List Value} [T : SlTy P t e z 1 bytes] (ho : o.op = .call { callee := .builtin .copy, args := #[x, y], argTypes := #[t, t] }) (hd : o.dst = some d) (hn : Nat.blt d n = true)
    (hx : ev F x = some (cutV v 1 a m)) (hL : L[i]? = some (rowHP v e 1 m ys)) (ha : a ≤ m) (hy : ev F y = some s) (hs : Shp s k) (hz : zs.length = k) (h1 : ∀ u ∈ zs, u.oneCell' = true) (hrd : ∀ w, St w0 S0 L w → RdV w s zs)
    (h : Reach w0 S0 n ((d, .int .i64 ((Nat.min k (m - a) : Nat) : Int)) :: F) (L.set i (rowHP v e 1 m (putL ys a (zs.take (Nat.min k (m - a)))))) R) : Reach w0 S0 n F L (fun a w => o.wp P a w R Q) := by
  have hinfo : (P.info? e).map (·.size) = some 1 := by
    have := T.info
    cases hq : P.info? e with
    | none => rw [hq] at this; simp at this
    | some i0 => rw [hq] at this; simp at this; simp [this.2.1]
  refine l_loud fun a' hf w hst => ?_
  obtain ⟨S, hsat⟩ := hst.mem (List.mem_of_getElem? hL)
  have hrow := hsat
  have hR := hrd w hst
  by_cases h0 : Nat.min k (m - a) = 0
  · rw [h0, List.take_zero, putL] at h
    have hLs : L.set i (rowHP v e 1 m ys) = L := by
      apply List.ext_getElem?
      intro j
      rw [List.getElem?_set]
      split
      · rename_i e1; subst e1; rw [hL, if_pos (List.getElem?_eq_some_iff.1 hL).1]
      · rfl
    rw [hLs] at h
    have hcs : ∃ p c, cutV v 1 a m = .slice p (m - a) c := by
      rcases (rowHP_shp hsat).2 with ⟨rfl, h2⟩ | ⟨g, off, cap, rfl, h2⟩ | ⟨⟨a0, rfl⟩, h2⟩
      · exact ⟨_, _, rfl⟩
      · exact ⟨_, _, rfl⟩
      · exact ⟨_, _, rfl⟩
    obtain ⟨p, c, hp⟩ := hcs
    have hss : ∃ q c2, s = .slice q k c2 := by
      rcases hs.2 with ⟨rfl, rfl⟩ | ⟨g, off, cap, rfl, h2⟩ | ⟨⟨a0, rfl⟩, rfl⟩
      · exact ⟨_, _, rfl⟩
      · exact ⟨_, _, rfl⟩
      · exact ⟨_, _, rfl⟩
    obtain ⟨q, c2, hq⟩ := hss
    have hrun := run_copyN (P := P) (dT := t) (sT := t) (ty := o.type) (p := p) (q := q) (dl := m - a) (dc := c) (sl := k) (sc := c2) (w := w) T.u hinfo h0
    refine ⟨_, w, by simp only [execOp, ho, resolve, invoke, builtin, Sem.run_bind, Sem.run_pure, Result.andThen_ok, List.map_toArray, List.map_cons, List.map_nil, hf.eval hx, hf.eval hy, hp, hq, hrun]; rfl, .inl ⟨_, rfl, _, _, by rw [hd]; exact hf.put hn, hst, h⟩⟩
  · have hpos : 0 < Nat.min k (m - a) := Nat.pos_of_ne_zero h0
    have hk1 : Nat.min k (m - a) ≤ k := Nat.min_le_left _ _
    have hk2 : Nat.min k (m - a) ≤ m - a := Nat.min_le_right _ _
    obtain ⟨c, hc⟩ : ∃ c, Nat.min k (m - a) = c := ⟨_, rfl⟩
    rw [hc] at h hpos hk1 hk2
    have hcl : (zs.take c).length = c := by rw [List.length_take]; omega
    have hcs1 : ∀ u ∈ zs.take c, u.oneCell' = true := fun u hu => h1 u (List.mem_of_mem_take hu)
    rcases hsat.2 with ⟨q1, rfl⟩ | ⟨g, off, cap, cur, q1, q2, q3, q4, q5, q6, q7⟩ | ⟨_, rfl⟩
    · omega
    · subst q1
      have hca : cap ≠ a := by omega
      have hp : cutV (.slice (some ⟨g, off, none⟩) m cap) 1 a m = .slice (some ⟨g, off + a, none⟩) (m - a) (cap - a) := by simp [cutV, hca, Addr.add]
      obtain ⟨u0, hu0⟩ : ∃ u0, zs[0]? = some u0 := ⟨_, List.getElem?_eq_getElem (by omega)⟩
      obtain ⟨g2, off2, m2, cap2, hq, _⟩ := hR 0 u0 hu0
      subst hq
      have hm2 : m2 = k := by
        rcases hs.2 with ⟨h2, _⟩ | ⟨g3, off3, cap3, h2, _⟩ | ⟨⟨a0, h2⟩, h3⟩
        · simp at h2
        · simp only [Value.slice.injEq] at h2; exact h2.2.1
        · simp only [Value.slice.injEq] at h2; omega
      subst hm2
      have hsrc : ∀ (j : Nat) u, (zs.take c)[j]? = some u → w.cell? ((⟨g2, off2, none⟩ : Addr).add j) = some u := fun j u hj => by
        rw [List.getElem?_take] at hj
        split at hj
        · obtain ⟨g4, off4, m4, cap4, e4, hc4⟩ := hR j u hj
          simp only [Value.slice.injEq, Option.some.injEq, Addr.mk.injEq] at e4
          obtain ⟨⟨rfl, rfl, _⟩, _, _⟩ := e4
          have hadd : (⟨g2, off2, none⟩ : Addr).add j = ⟨g2, off2 + j, none⟩ := by
            by_cases h0 : j = 0
            · subst h0; rfl
            · simp [Addr.add, h0]
          rw [hadd]; exact hc4
        · simp at hj
      have hrun := run_copyS (P := P) (dT := t) (sT := t) (ty := o.type) (g := g) (off := off + a) (dl := m - a) (dc := cap - a) (sl := m2) (sc := cap2) (a := ⟨g2, off2, none⟩) (cs := zs.take c) (w := w) T.u hinfo (by rw [hcl, hc]) hsrc q3 (by rw [hcl]; omega) hcs1
      rw [hcl] at hrun
      refine ⟨_, _, by simp only [execOp, ho, resolve, invoke, builtin, Sem.run_bind, Sem.run_pure, Result.andThen_ok, List.map_toArray, List.map_cons, List.map_nil, hf.eval hx, hf.eval hy, hp, hrun]; rfl, .inl ⟨_, rfl, _, _, by rw [hd]; exact hf.put hn, ?_, h⟩⟩
      refine hst.step hL fun S hsat => ?_
      rcases hsat.2 with ⟨p1, rfl⟩ | ⟨g', off', cap', cur', p1, p2, p3, p4, p5, p6, p7⟩ | ⟨_, rfl⟩
      · omega
      · simp only [Value.slice.injEq, Option.some.injEq, Addr.mk.injEq] at p1
        obtain ⟨⟨rfl, rfl, _⟩, _, rfl⟩ := p1
        obtain ⟨cur2, r1, r2⟩ := setCells_blk (zs.take c) (off := off + a) p3
        refine ⟨S, mod_setCells p2 _, by rw [putL_length]; exact hsat.1, .inr (.inl ⟨g, off, cap, cur2, rfl, p2, r1, p4, p5, ?_, ?_⟩)⟩
        · rw [← Array.length_toList, r2, putL_length, Array.length_toList, p6]
        · rw [r2, take_drop_putL _ _ _ _ _ (by rw [hcl]; omega), p7]
      · omega
    · omega
theorem o_copy {x y : Operand} {t e : TypeId} {z s : Value} {bytes m a k i : Nat} {ys zs : List Value} [T : SlTy P t e z 1 bytes] (hn : Nat.blt d n = true)
    (hx : ev F x = some (cutV v 1 a m)) (hL : L[i]? = some (rowHP v e 1 m ys)) (ha : a ≤ m) (hy : ev F y = some s) (hs : Shp s k) (hz : zs.length = k) (h1 : ∀ u ∈ zs, u.oneCell' = true) (hrd : ∀ w, St w0 S0 L w → RdV w s zs)
    (h : Reach w0 S0 n ((d, .int .i64 ((Nat.min k (m - a) : Nat) : Int)) :: F) (L.set i (rowHP v e 1 m (putL ys a (zs.take (Nat.min k (m - a)))))) (wpList P ops Q rest)) : Reach w0 S0 n F L (wpList P ops Q (⟨some d, .call { callee := .builtin .copy, args := #[x, y], argTypes := #[t, t] }, ty, ps, af, none⟩ :: rest)) :=
  s_of_l rfl fun R hR => l_copy rfl rfl hn hx hL ha hy hs hz h1 hrd (h.imp hR)
theorem p_copy {Lk : List HP} {prest : List PI} {x y : Operand} {t e : TypeId} {z s : Value} {bytes m a k i j : Nat} {ys zs : List Value} [T : SlTy P t e z 1 bytes] (ho : ops[i]? = some ⟨some d, .call { callee := .builtin .copy, args := #[x, y], argTypes := #[t, t] }, ty, ps, af, none⟩) (hn : Nat.blt d n = true)
    (hx : ev F x = some (cutV v 1 a m)) (hA : L[j]? = some (rowHP v e 1 m ys)) (ha : a ≤ m) (hy : ev F y = some s) (hs : Shp s k) (hz : zs.length = k) (h1 : ∀ u ∈ zs, u.oneCell' = true) (hrd : ∀ w, St w0 S0 L w → RdV w s zs) (hL : ∀ w, St w0 S0 (L.set j (rowHP v e 1 m (putL ys a (zs.take (Nat.min k (m - a)))))) w → St w0 S0 Lk w)
    (h : RP P w0 S0 n ops Q Lk prest ((d, .int .i64 ((Nat.min k (m - a) : Nat) : Int)) :: F) (L.set j (rowHP v e 1 m (putL ys a (zs.take (Nat.min k (m - a))))))) : RP P w0 S0 n ops Q Lk (.mk i false :: prest) F L :=
  p_l ho rfl fun R hR => l_copy rfl rfl hn hx hA ha hy hs hz h1 hrd (hR _ _ hL h)
theorem cutV_all {m : Nat} (h : Shp v m) : cutV v 1 0 m = v := by
  rcases h.2 with ⟨rfl, rfl⟩ | ⟨g, off, cap, rfl, h2⟩ | ⟨⟨a0, rfl⟩, rfl⟩
  · rfl
  · by_cases hc : cap = 0
    · subst hc; simp [cutV]
    · simp [cutV, hc, Addr.add]
  · simp [cutV]
end
end Go.Sl
end
section
set_option linter.unusedVariables false
namespace Go.Sl
theorem rep_put {α : Type} {x z : α} : ∀ (t c r : Nat), t ≤ r → putL (List.replicate c x ++ List.replicate r z) c (List.replicate t x) = List.replicate (c + t) x ++ List.replicate (r - t) z
  | 0, c, r, _ => by simp [putL]
  | t + 1, c, r, h => by
    obtain ⟨r, rfl⟩ : ∃ q, r = q + 1 := ⟨r - 1, by omega⟩
    have e : (List.replicate c x ++ List.replicate (r + 1) z).set c x = List.replicate (c + 1) x ++ List.replicate r z := by
      rw [List.set_append_right _ _ (by simp), List.length_replicate, Nat.sub_self, List.replicate_succ, List.set_cons_zero, List.replicate_succ', List.append_assoc]; rfl
    show putL ((List.replicate c x ++ List.replicate (r + 1) z).set c x) (c + 1) (List.replicate t x) = _
    rw [e, rep_put t (c + 1) r (by omega), show c + 1 + t = c + (t + 1) by omega, show r + 1 - (t + 1) = r - t by omega]
end Go.Sl
namespace Go.Proofs
open Go.Shelf
def Tryz.bitsMul_ren : Go.Shelf.Ren := ⟨fun | 212 => 85 | 263 => 115 | 264 => 116 | n => n, fun | 46 => 111 | 51 => 156 | 146 => 159 | 53 => 158 | 148 => 161 | n => n, fun | n => n⟩
theorem Tryz.bitsMul : Go.Proofs.Lays.n212 Tryz.prog Tryz.bitsMul_ren := {
  mixed := by kernel_rfl
  f212 := Tryz.func85.trans (congrArg some (by kernel_rfl))
  f263 := Tryz.func115.trans (congrArg some (by kernel_rfl))
  f264 := Tryz.func116.trans (congrArg some (by kernel_rfl))
  t46 := Tryz.underlying111
  a46 := Tryz.isAgg111
  z46 := Tryz.sizeOf111
  v46 := Tryz.zeroValue111
  t51 := Tryz.underlying156
  a51 := Tryz.isAgg156
  z51 := Tryz.sizeOf156
  v51 := Tryz.zeroValue156
  t53 := Tryz.underlying158
  a53 := Tryz.isAgg158
  z53 := Tryz.sizeOf158
  v53 := Tryz.zeroValue158
  t146 := Tryz.underlying159
  a146 := Tryz.isAgg159
  z146 := Tryz.sizeOf159
  v146 := Tryz.zeroValue159
  t148 := Tryz.underlying161
  a148 := Tryz.isAgg161
  z148 := Tryz.sizeOf161
  v148 := Tryz.zeroValue161 }
end Go.Proofs
namespace Go.Proofs.YtpajjnkmaebhcabGreat
open Go Go.RowKit Go.Sl Fil
theorem Mul_ok (x y : Nat) (w : World) (hx : x < 18446744073709551616) (hy : y < 18446744073709551616) (hxy : x * y < 18446744073709551616) :
    Calls Tryz.prog 85 #[.int .u64 (x : Int), .int .u64 (y : Int)] w (Post w No (Just (.tuple #[.int .u64 0, .int .u64 ((x * y : Nat) : Int)]))) := by
  have c := Any.bits_Mul Tryz.bitsMul x y hx hy w
  change Calls Tryz.prog 85 _ _ _ at c
  refine Calls.mono c ?_
  rintro e w' ⟨rfl, rfl⟩
  rw [Nat.div_eq_of_lt hxy, Nat.mod_eq_of_lt hxy]
  exact ⟨_, [], ⟨rfl, rfl⟩, rfl, No, Mod.refl _ _, trivial⟩
set_option maxRecDepth 100000
set_option maxHeartbeats 8000000
set_option linter.unusedVariables false
set_option linter.unusedSimpArgs false
attribute [local irreducible] Code.wp wpList bodyPost wpQuiet Exit.then Exit.inBlock Post wpAnyH wpOp
theorem Repeat_ok (v : Value) (x : Int) (N : Nat) (w : World) (hs : Shp v 1) (hr : RO w No v [.int .i64 x]) (hN : N ≤ 1048576) :
    Calls Tryz.prog 54 #[v, .int .i64 (N : Int)] w (Post w No fun r L' => L' = [rowHP r 3 1 N (List.replicate N (.int .i64 x))]) := by
  refine enter0 (vs := [_, _]) Tryz.func54 rfl Tryz.ntmps54 rfl ?_
  have hnil : ∀ m : Nat, N ≤ m → True := fun _ _ => trivial
  repeat' first
    | refine k_then ?_ | refine c_seq ?_ | refine c_region ?_ | refine s_nil ?_ | refine s_move (by exact rfl) (by exact rfl) ?_ | refine s_assign (by exact rfl) (by exact rfl) ?_ | refine s_lss (by exact rfl) (by exact rfl) (by exact rfl) ?_ | refine s_len (by exact rfl) (by exact rfl) (by assumption) ?_ | refine c_skip ?_ | (refine c_cond_p (by exact rfl) (fun h => ?_) (fun h => ?_) <;> try (exfalso; omega)) | refine s_conv (by exact rfl) (by exact rfl) (by refine ⟨?_, ?_⟩ <;> simp [IntKind.min, IntKind.max, IntKind.signed, IntKind.bits] <;> omega) ?_ | fail
  refine s_call (vs := [.int .u64 ((1 : Nat) : Int), .int .u64 (N : Int)]) (by exact rfl) (by exact rfl) (fun w h => Mul_ok 1 N w (by omega) (by omega) (by omega)) ?_
  rw [Nat.one_mul]
  repeat' first
    | refine k_then ?_ | refine c_seq ?_ | refine c_region ?_ | refine s_nil ?_ | refine s_move (by exact rfl) (by exact rfl) ?_ | refine s_assign (by exact rfl) (by exact rfl) ?_ | refine s_gtr (by exact rfl) (by exact rfl) (by exact rfl) ?_ | refine s_extract (by exact rfl) (by exact rfl) (by exact rfl) ?_ | refine s_pick_f (by exact rfl) (by exact rfl) (by exact rfl) ?_ | refine c_skip ?_ | (refine c_cond_p (by exact rfl) (fun h => ?_) (fun h => ?_) <;> try (exfalso; omega)) | (refine g_case (by exact rfl) (by exact rfl) (fun h => ?_) (fun h => ?_) <;> try (exfalso; omega)) | refine w_move (by exact rfl) (by exact rfl) (by exact rfl) (by exact rfl) ?_ | refine w_gtr (by exact rfl) (by exact rfl) (by exact rfl) (by exact rfl) (by exact rfl) ?_ | refine s_conv (by exact rfl) (by exact rfl) (by refine ⟨?_, ?_⟩ <;> simp [IntKind.min, IntKind.max, IntKind.signed, IntKind.bits] <;> omega) ?_ | fail
  refine o_make (by exact rfl) (by exact rfl) (by exact rfl) (by omega) (by omega) fun vo hvo => ?_
  rw [made1 rfl]
  repeat' first
    | refine k_then ?_ | refine c_seq ?_ | refine c_region ?_ | refine s_nil ?_ | refine s_move (by exact rfl) (by exact rfl) ?_ | refine s_assign (by exact rfl) (by exact rfl) ?_ | fail
  have hvoN : Shp vo N := hvo
  refine o_copy (v := vo) (a := 0) (m := N) (k := 1) (i := 0) (zs := [.int .i64 x]) (by exact rfl) (by rw [cutV_all hvoN]; exact rfl) (by exact rfl) (Nat.zero_le _) (by exact rfl) hs rfl (by simp [Value.oneCell']) (fun w h => by
    obtain ⟨S, hm, _⟩ := h
    exact hr w S hm) ?_
  have hm1 : Nat.min 1 (N - 0) ≤ N := by rw [Nat.sub_zero]; exact Nat.min_le_right _ _
  have hput0 : putL (List.replicate (N : Int).toNat (Value.int .i64 0)) 0 (List.take (Nat.min 1 (N - 0)) [Value.int .i64 x]) = List.replicate (Nat.min 1 (N - 0)) (.int .i64 x) ++ List.replicate (N - Nat.min 1 (N - 0)) (.int .i64 0) := by
    have := rep_put (x := Value.int .i64 x) (z := Value.int .i64 0) (Nat.min 1 (N - 0)) 0 N hm1
    rw [Nat.zero_add] at this
    rw [← this]
    congr 1
    cases N with
    | zero => rfl
    | succ N => simp [Nat.min_def]
  have hmp : 0 < N → 0 < Nat.min 1 (N - 0) := fun h => by simp [Nat.min_def]; split <;> omega
  rw [hput0]
  generalize Nat.min 1 (N - 0) = c0 at *
  repeat' first
    | refine k_then ?_ | refine c_seq ?_ | refine s_nil ?_ | refine s_assign (by exact rfl) (by exact rfl) ?_ | refine c_block ?_ | fail
  refine c_loop (fun c : Nat => c ≤ N ∧ (0 < N → 0 < c)) (fun c => [(7, vo), (8, .int .i64 (c : Int))]) (fun c => [rowHP vo 3 1 N (List.replicate c (.int .i64 x) ++ List.replicate (N - c) (.int .i64 0))]) (fun c => N - c) c0 [0] ⟨hm1, hmp⟩ (by exact rfl) ⟨rfl, rfl, trivial⟩ ?_
  rintro c ⟨hc, hcp⟩
  by_cases hcN : c < N
  · repeat' first
      | refine k_then ?_ | refine c_seq ?_ | refine c_region ?_ | refine s_nil ?_ | refine s_move (by exact rfl) (by exact rfl) ?_ | refine s_lss (by exact rfl) (by exact rfl) (by exact rfl) ?_ | refine s_len (by exact rfl) (by exact rfl) (by assumption) ?_ | refine c_block ?_ | refine c_skip ?_ | (refine c_cond_p (by exact rfl) (fun h => ?_) (fun h => ?_) <;> try (exfalso; omega)) | fail
    refine p_begin [(0, true), (1, true), (2, true), (3, true), (4, true), (5, true), (6, true), (7, false), (8, true), (9, true)] [] (by kernel_rfl) ?_
    repeat' first
      | (refine p_at (by exact rfl) ?_
         first
          | refine t_move (by exact rfl) (by exact rfl) (by exact fun _ h => h.tl) ?_ | refine t_cut_lo (by exact rfl) (by exact rfl) (by exact rfl) (by assumption) (by omega) (by exact fun _ h => h.tl) ?_ | refine t_cut_hi (by exact rfl) (by exact rfl) (by exact rfl) (by assumption) (by omega) (by exact fun _ h => h.tl) ?_ | fail)
      | fail
    have hmin : Nat.min c (N - c) ≤ N - c := Nat.min_le_right _ _
    have hmin2 : 0 < Nat.min c (N - c) := by have := hcp (by omega); simp [Nat.min_def]; split <;> omega
    have hmin3 : Nat.min c (N - c) ≤ c := Nat.min_le_left _ _
    have hsrc : ((List.replicate c (Value.int .i64 x) ++ List.replicate (N - c) (Value.int .i64 0)).drop (0 * 1)).take ((c - 0) * 1) = List.replicate c (.int .i64 x) := by simp
    have hput := rep_put (x := Value.int .i64 x) (z := Value.int .i64 0) (Nat.min c (N - c)) c (N - c) hmin
    refine p_copy (v := vo) (a := c) (m := N) (k := c) (j := 0) (s := cutV vo 1 0 c) (zs := List.replicate c (.int .i64 x)) (by exact rfl) (by exact rfl) (by exact rfl) (by exact rfl) hc (by exact rfl) (by have := hvoN.cut (sz := 1) (Nat.zero_le c) hc; simpa using this) (by simp) (by simp [Value.oneCell']) (fun w h => by
      have h2 := RdV.cut (sz := 1) hvoN ((h.mem (.head _)).elim fun _ h => rowHP_rd h) (Nat.zero_le c) hc
      rw [hsrc] at h2
      exact h2) (fun _ h => h.tl) ?_
    rw [List.take_replicate, Nat.min_eq_left hmin3]
    dsimp only [List.set_cons_zero]
    rw [hput, show N - c - Nat.min c (N - c) = N - (c + Nat.min c (N - c)) by omega]
    generalize Nat.min c (N - c) = t at *
    repeat' first
      | refine p_nil ?_
      | (refine p_at (by exact rfl) ?_
         first
          | refine t_assign (by exact rfl) (by exact rfl) (by exact fun _ h => h.tl) ?_ | refine t_add (by exact rfl) (by exact rfl) (by exact rfl) (by omega) (by exact fun _ h => h.tl) ?_ | fail)
      | fail
    repeat' first
      | refine k_then ?_ | refine k_blk ?_ | fail
    refine c_round (c + t) [0] (by exact rfl) ⟨rfl, rfl, trivial⟩ ⟨by omega, by omega⟩ (by omega)
  · repeat' first
      | refine k_then ?_ | refine c_seq ?_ | refine c_region ?_ | refine s_nil ?_ | refine s_move (by exact rfl) (by exact rfl) ?_ | refine s_assign (by exact rfl) (by exact rfl) ?_ | refine s_lss (by exact rfl) (by exact rfl) (by exact rfl) ?_ | refine s_len (by exact rfl) (by exact rfl) (by assumption) ?_ | refine c_exit ?_ | refine c_ret ?_ | refine k_then_exit ?_ | refine k_blk_eq ?_ | (refine c_cond_p (by exact rfl) (fun h => ?_) (fun h => ?_) <;> try (exfalso; omega)) | fail
    obtain rfl : c = N := by omega
    rw [Nat.sub_self, List.replicate_zero, List.append_nil]
    refine ret1 [0] rfl rfl rfl rfl
end Go.Proofs.YtpajjnkmaebhcabGreat
end
section
set_option linter.unusedVariables false
namespace Fil
def gStep (A : Nat → List Nat) (c : List Int) (v : Nat) : List Int := c.set v (leastK ((A v).map fun u => c.getD u 0) : Int)
def greedyL (n : Int) (A : Nat → List Nat) : List Int → List Int → Option (List Int)
  | [], c => some c
  | v :: vs, c => if v < 0 ∨ n ≤ v ∨ 0 ≤ c.getD v.toNat 0 then none else greedyL n A vs (gStep A c v.toNat)
/-- the colours in an order -/
def greedyR (n : Int) (es : List E) (l : List Int) : Option (List Int) := if rightK n es = 0 ∧ (l.length : Int) = n then greedyL n (nearS (tn es)) l (List.replicate n.toNat (-1)) else none
end Fil
namespace Go.Proofs.YtpajjnkmaebhcabGreat
open Go Go.RowKit Go.Sl Fil
set_option maxRecDepth 100000
set_option maxHeartbeats 8000000
set_option linter.unusedVariables false
set_option linter.unusedSimpArgs false
attribute [local irreducible] Code.wp wpList bodyPost wpQuiet Exit.then Exit.inBlock Post wpAnyH wpOp
theorem ColGreedy_ok (n : Int) (v vi : Value) (es : List E) (l : List Int) (w : World) (hs : Shp v es.length) (hr : RO w No v (esV es)) (hm : es.length < 4611686018427387904) (hs2 : Shp vi l.length) (hr2 : RO w No vi (iV l)) (hn : n ≤ 1048576) :
    Calls Tryz.prog 29 #[.agg #[.int .i64 n, v], vi] w (Post w No fun r L' => match greedyR n es l with | none => r = .tuple #[.slice none 0 0, .int .i64 1] ∧ L' = [] | some c => ∃ vo, r = .tuple #[vo, .int .i64 0] ∧ c.length = n.toNat ∧ L' = [rowHP vo 3 1 n.toNat (iV c)]) := by
  have hlm := hs2.1
  simp only [maxLen] at hlm
  refine enter0 (vs := [_, _]) Tryz.func29 rfl Tryz.ntmps29 rfl ?_
  repeat' first
    | refine k_then ?_ | refine c_seq ?_ | refine c_region ?_ | refine s_nil ?_ | refine s_assign (by exact rfl) (by exact rfl) ?_ | refine s_ldk_box (by exact rfl) (by exact rfl) (by exact .head _) (by exact rfl) (by exact rfl) ?_ | refine o_box (by exact rfl) (by exact rfl) (fun b => ?_) | fail
  revert b; intro b2
  refine s_call (by exact rfl) (by exact rfl) (fun w h => Right_ok n v es w hs (ro_old h hr) hm) ?_
  by_cases hR0 : rightK n es = 0
  case neg =>
    have hg : greedyR n es l = none := if_neg fun h => hR0 h.1
    rw [hg]
    repeat' first
      | refine k_then ?_ | refine c_seq ?_ | refine c_region ?_ | refine s_nil ?_ | refine s_move (by exact rfl) (by exact rfl) ?_ | refine s_assign (by exact rfl) (by exact rfl) ?_ | refine s_neq (by exact rfl) (by exact rfl) (by exact rfl) ?_ | refine s_pick_t (by exact rfl) (by exact rfl) (by exact rfl) ?_ | refine c_ret ?_ | refine k_then_ret ?_ | refine c_cond_t (by exact rfl) ?_ | (refine g_case (by exact rfl) (by exact rfl) (fun h => ?_) (fun h => ?_) <;> try (exfalso; omega)) | refine g_skip (by exact rfl) (by exact rfl) (by exact rfl) (by exact rfl) ?_ | fail
    all_goals first
      | exact absurd (Classical.byContradiction h) hR0
      | refine retL [.tmp 4, .tmp 5] [.slice none 0 0, .int .i64 1] [] rfl ⟨res_tmp rfl, res_tmp rfl, trivial⟩ (by exact rfl) ⟨rfl, rfl⟩
  have hR := right_iff.1 hR0
  have hlo := hR.lo
  rw [hR0]
  by_cases hl : (l.length : Int) = n
  case neg =>
    have hg : greedyR n es l = none := if_neg fun h => hl h.2
    rw [hg]
    repeat' first
      | refine k_then ?_ | refine c_seq ?_ | refine c_region ?_ | refine s_nil ?_ | refine s_move (by exact rfl) (by exact rfl) ?_ | refine s_assign (by exact rfl) (by exact rfl) ?_ | refine s_neq (by exact rfl) (by exact rfl) (by exact rfl) ?_ | refine s_pick_f (by exact rfl) (by exact rfl) (by exact rfl) ?_ | refine c_ret ?_ | refine k_then_ret ?_ | (refine c_cond_p (by exact rfl) (fun h => ?_) (fun h => ?_) <;> try (exfalso; omega)) | (refine g_case (by exact rfl) (by exact rfl) (fun h => ?_) (fun h => ?_) <;> try (exfalso; omega)) | refine w_move (by exact rfl) (by exact rfl) (by exact rfl) (by exact rfl) ?_ | refine w_fa (by exact rfl) (by exact rfl) (by exact rfl) (by exact rfl) ?_ | refine w_ld_box (by exact rfl) (by exact rfl) (by exact rfl) (by exact rfl) (by exact .head _) (by exact rfl) ?_ | refine w_neq (by exact rfl) (by exact rfl) (by exact rfl) (by exact rfl) (by exact rfl) ?_ | refine w_len (by exact rfl) (by exact rfl) (by exact rfl) (by exact rfl) (by assumption) ?_ | fail
    refine retL [.tmp 4, .tmp 5] [.slice none 0 0, .int .i64 1] [] rfl ⟨res_tmp rfl, res_tmp rfl, trivial⟩ (by exact rfl) ⟨rfl, rfl⟩
  have hg : greedyR n es l = greedyL n (nearS (tn es)) l (List.replicate n.toNat (-1)) := if_pos ⟨hR0, hl⟩
  rw [hg]
  repeat' first
    | refine k_then ?_ | refine c_seq ?_ | refine c_region ?_ | refine s_nil ?_ | refine s_move (by exact rfl) (by exact rfl) ?_ | refine s_neq (by exact rfl) (by exact rfl) (by exact rfl) ?_ | refine s_pick_f (by exact rfl) (by exact rfl) (by exact rfl) ?_ | refine c_skip ?_ | (refine c_cond_p (by exact rfl) (fun h => ?_) (fun h => ?_) <;> try (exfalso; omega)) | (refine g_case (by exact rfl) (by exact rfl) (fun h => ?_) (fun h => ?_) <;> try (exfalso; omega)) | refine w_move (by exact rfl) (by exact rfl) (by exact rfl) (by exact rfl) ?_ | refine w_fa (by exact rfl) (by exact rfl) (by exact rfl) (by exact rfl) ?_ | refine w_ld_box (by exact rfl) (by exact rfl) (by exact rfl) (by exact rfl) (by exact .head _) (by exact rfl) ?_ | refine w_neq (by exact rfl) (by exact rfl) (by exact rfl) (by exact rfl) (by exact rfl) ?_ | refine w_len (by exact rfl) (by exact rfl) (by exact rfl) (by exact rfl) (by assumption) ?_ | fail
  have hA : ∀ u, u < n.toNat → ∀ x ∈ nearS (tn es) u, x < n.toNat := fun u hu x hx => hR.good.adj.lt u hu x (mem_nearS.1 hx)
  have hll : ∀ u, (nearS (tn es) u).length ≤ 4194304 := fun u => by
    have h1 := nb_length (tn es) u
    have h2 := hR.many
    simp only [nearS, List.length_mergeSort]
    simp only [tn, List.length_map] at h1 ⊢
    omega
  obtain ⟨N, rfl⟩ : ∃ N : Nat, n = (N : Int) := ⟨n.toNat, by omega⟩
  simp only [Int.toNat_natCast] at *
  have hvc : (Value.agg #[.int .i64 (N : Int), v]).cells.toList = [.int .i64 (N : Int), v] := by simp [Value.cells, one_cells hs.one]
  rw [hvc]
  refine o_mk [.int .i64 (-1)] (by exact rfl) (by exact rfl) rfl (by simp [Value.cells]) (by simp) (by simp) fun va hva => ?_
  repeat' first
    | refine s_fa (by exact rfl) (by exact rfl) ?_ | refine s_ld_box (by exact rfl) (by exact rfl) (by exact .tail _ (.head _)) (by exact rfl) ?_ | fail
  refine o_call (vs := [va, .int .i64 (N : Int)]) (by exact rfl) (by exact rfl) (fun w h => Repeat_ok va (-1) N w hva (ro_own h (.head _)) (by omega)) ?_
  rintro vo _ rfl
  refine know_row (v := vo) (.head _) fun hvo _ => ?_
  repeat' first
    | refine k_then ?_ | refine c_seq ?_ | refine c_region ?_ | refine s_nil ?_ | refine s_assign (by exact rfl) (by exact rfl) ?_ | refine s_ldk_box (by exact rfl) (by exact rfl) (by exact .tail _ (.tail _ (.head _))) (by exact rfl) (by exact rfl) ?_ | fail
  refine o_call (by exact rfl) (by exact rfl) (fun w h => Near_ok (N : Int) v es w hs (ro_old h hr) hR) ?_
  rintro vn _ ⟨hn1, hnl, rfl⟩
  refine know_row (v := vn) (.head _) fun hvn _ => ?_
  repeat' first
    | refine k_then ?_ | refine c_seq ?_ | refine c_region ?_ | refine s_nil ?_ | refine s_move (by exact rfl) (by exact rfl) ?_ | refine s_assign (by exact rfl) (by exact rfl) ?_ | refine s_len (by exact rfl) (by exact rfl) (by assumption) ?_ | refine c_block ?_ | fail
  simp only [Int.toNat_natCast] at *
  generalize nearS (tn es) = A at *
  have e0 : iV (List.replicate N (-1)) = List.replicate N (.int .i64 (-1)) := by simp [iV]
  rw [← e0]
  refine c_loop (fun x : Nat × List Int => x.1 ≤ l.length ∧ x.2.length = N ∧ greedyL N A l (List.replicate N (-1)) = greedyL N A (l.drop x.1) x.2) (fun x => [(2, .pointer (some ⟨b2, 0, none⟩)), (4, .slice none 0 0), (6, vo), (7, vn), (29, vi), (30, .int .i64 (l.length : Int)), (31, .int .i64 (x.1 : Int))]) (fun x => [rowHP vo 3 1 N (iV x.2), rowHP vn 28 1 N hn1, starHP (kids rowN hn1 ((List.range N).map A)), boxHP b2 24 [.int .i64 (N : Int), v]]) (fun x => l.length - x.1) (0, List.replicate N (-1)) [2, 0, 0, 1] ⟨Nat.zero_le _, by simp, rfl⟩ (by exact rfl) ⟨rfl, rfl, rfl, rfl, rfl, rfl, rfl, trivial⟩ ?_
  rintro ⟨k, c⟩ ⟨hk, hcl, hgr⟩
  dsimp only at hk hcl hgr ⊢
  by_cases hkl : k < l.length
  · obtain ⟨x, hx⟩ : ∃ x, l[k]? = some x := ⟨_, List.getElem?_eq_getElem hkl⟩
    have hcx : (iV l)[k * 1]? = some (.int .i64 x) := by rw [Nat.mul_one, iV, List.getElem?_map, hx]; rfl
    have hdr : l.drop k = x :: l.drop (k + 1) := by
      obtain ⟨h1, h2⟩ := List.getElem?_eq_some_iff.1 hx
      rw [List.drop_eq_getElem_cons h1, h2]
    rw [hdr, greedyL] at hgr
    by_cases hout : x < 0 ∨ (N : Int) ≤ x
    · rw [if_pos (by omega)] at hgr
      rw [hgr]
      repeat' first
        | refine k_then ?_ | refine c_seq ?_ | refine c_region ?_ | refine s_nil ?_ | refine s_move (by exact rfl) (by exact rfl) ?_ | refine s_assign (by exact rfl) (by exact rfl) ?_ | refine s_lss (by exact rfl) (by exact rfl) (by exact rfl) ?_ | refine s_idx (by exact rfl) (by exact rfl) (by exact rfl) (by assumption) (by first | assumption | omega) ?_ | refine s_pick_t (by exact rfl) (by exact rfl) (by exact rfl) ?_ | refine s_pick_f (by exact rfl) (by exact rfl) (by exact rfl) ?_ | refine s_ld_ro (by exact rfl) (by exact rfl) (by assumption) (by assumption) ?_ | refine c_block ?_ | refine c_skip ?_ | refine c_ret ?_ | refine k_then_ret ?_ | refine k_blk_ret ?_ | (refine c_cond_p (by exact rfl) (fun h => ?_) (fun h => ?_) <;> try (exfalso; omega)) | refine c_cond_t (by exact rfl) ?_ | (refine g_case (by exact rfl) (by exact rfl) (fun h => ?_) (fun h => ?_) <;> try (exfalso; omega)) | refine g_skip (by exact rfl) (by exact rfl) (by exact rfl) (by exact rfl) ?_ | refine w_move (by exact rfl) (by exact rfl) (by exact rfl) (by exact rfl) ?_ | refine w_fa (by exact rfl) (by exact rfl) (by exact rfl) (by exact rfl) ?_ | refine w_ld_box (by exact rfl) (by exact rfl) (by exact rfl) (by exact rfl) (by exact .tail _ (.tail _ (.tail _ (.head _)))) (by exact rfl) ?_ | refine w_geq (by exact rfl) (by exact rfl) (by exact rfl) (by exact rfl) (by exact rfl) ?_ | fail
      all_goals refine retL [.tmp 4, .tmp 5] [.slice none 0 0, .int .i64 1] [] rfl ⟨res_tmp rfl, res_tmp rfl, trivial⟩ (by exact rfl) ⟨rfl, rfl⟩
    obtain ⟨q, rfl⟩ : ∃ q : Nat, x = (q : Int) := ⟨x.toNat, by omega⟩
    have hq : q < N := by omega
    have hcq : (iV c)[q * 1]? = some (.int .i64 (c.getD q 0)) := by rw [Nat.mul_one, iV, List.getElem?_map, List.getD_eq_getElem?_getD, List.getElem?_eq_getElem (by omega)]; rfl
    simp only [Int.toNat_natCast] at hgr
    by_cases h0 : 0 ≤ c.getD q 0
    · rw [if_pos (.inr (.inr h0))] at hgr
      rw [hgr]
      repeat' first
        | refine k_then ?_ | refine c_seq ?_ | refine c_region ?_ | refine s_nil ?_ | refine s_move (by exact rfl) (by exact rfl) ?_ | refine s_assign (by exact rfl) (by exact rfl) ?_ | refine s_lss (by exact rfl) (by exact rfl) (by exact rfl) ?_ | refine s_idx (by exact rfl) (by exact rfl) (by exact rfl) (by assumption) (by first | assumption | omega) ?_ | refine s_pick_f (by exact rfl) (by exact rfl) (by exact rfl) ?_ | refine s_ld_ro (by exact rfl) (by exact rfl) (by assumption) (by assumption) ?_ | refine c_block ?_ | refine c_skip ?_ | refine c_ret ?_ | refine k_then_ret ?_ | refine k_blk_ret ?_ | (refine c_cond_p (by exact rfl) (fun h => ?_) (fun h => ?_) <;> try (exfalso; omega)) | (refine g_case (by exact rfl) (by exact rfl) (fun h => ?_) (fun h => ?_) <;> try (exfalso; omega)) | refine w_move (by exact rfl) (by exact rfl) (by exact rfl) (by exact rfl) ?_ | refine w_fa (by exact rfl) (by exact rfl) (by exact rfl) (by exact rfl) ?_ | refine w_ld_box (by exact rfl) (by exact rfl) (by exact rfl) (by exact rfl) (by exact .tail _ (.tail _ (.tail _ (.head _)))) (by exact rfl) ?_ | refine w_geq (by exact rfl) (by exact rfl) (by exact rfl) (by exact rfl) (by exact rfl) ?_ | refine w_idx (by exact rfl) (by exact rfl) (by exact rfl) (by exact rfl) (by exact rfl) (by assumption) (by first | assumption | omega) ?_ | refine w_ld_row (by exact rfl) (by exact rfl) (by exact rfl) (by exact rfl) (by exact .head _) (by assumption) ?_ | fail
      all_goals refine retL [.tmp 4, .tmp 5] [.slice none 0 0, .int .i64 1] [] rfl ⟨res_tmp rfl, res_tmp rfl, trivial⟩ (by exact rfl) ⟨rfl, rfl⟩
    rw [if_neg (by omega)] at hgr
    obtain ⟨hd, hhd⟩ : ∃ hd, hn1[q]? = some hd := ⟨_, List.getElem?_eq_getElem (by omega)⟩
    have hhd1 : hn1[q * 1]? = some hd := by simpa using hhd
    have hK : rowHP hd 3 1 (A q).length (nV (A q)) ∈ kids rowN hn1 ((List.range N).map A) := kids_mem (f := rowN) (l := A q) hhd (by simp [hq])
    refine know_kid (Ks := kids rowN hn1 ((List.range N).map A)) (.tail _ (.tail _ (.head _))) hK fun hhs _ => ?_
    have hAq := hll q
    repeat' first
      | refine k_then ?_ | refine c_seq ?_ | refine c_region ?_ | refine s_nil ?_ | refine s_move (by exact rfl) (by exact rfl) ?_ | refine s_assign (by exact rfl) (by exact rfl) ?_ | refine s_lss (by exact rfl) (by exact rfl) (by exact rfl) ?_ | refine s_len (by exact rfl) (by exact rfl) (by assumption) ?_ | refine s_idx (by exact rfl) (by exact rfl) (by exact rfl) (by assumption) (by first | assumption | omega) ?_ | refine s_pick_f (by exact rfl) (by exact rfl) (by exact rfl) ?_ | refine s_ld_ro (by exact rfl) (by exact rfl) (by assumption) (by assumption) ?_ | refine s_ld_row (by exact rfl) (by exact rfl) (by exact .tail _ (.head _)) (by assumption) ?_ | refine c_block ?_ | refine c_skip ?_ | (refine c_cond_p (by exact rfl) (fun h => ?_) (fun h => ?_) <;> try (exfalso; omega)) | (refine g_case (by exact rfl) (by exact rfl) (fun h => ?_) (fun h => ?_) <;> try (exfalso; omega)) | refine w_move (by exact rfl) (by exact rfl) (by exact rfl) (by exact rfl) ?_ | refine w_fa (by exact rfl) (by exact rfl) (by exact rfl) (by exact rfl) ?_ | refine w_ld_box (by exact rfl) (by exact rfl) (by exact rfl) (by exact rfl) (by exact .tail _ (.tail _ (.tail _ (.head _)))) (by exact rfl) ?_ | refine w_geq (by exact rfl) (by exact rfl) (by exact rfl) (by exact rfl) (by exact rfl) ?_ | refine w_idx (by exact rfl) (by exact rfl) (by exact rfl) (by exact rfl) (by exact rfl) (by assumption) (by first | assumption | omega) ?_ | refine w_ld_row (by exact rfl) (by exact rfl) (by exact rfl) (by exact rfl) (by exact .head _) (by assumption) ?_ | fail
    refine c_nil 3 1 ?_
    refine c_loop (fun x : Nat × Value => x.1 ≤ (A q).length) (fun x => [(2, .pointer (some ⟨b2, 0, none⟩)), (4, .slice none 0 0), (6, vo), (7, vn), (29, vi), (30, .int .i64 (l.length : Int)), (31, .int .i64 (k : Int)), (9, .int .i64 (q : Int)), (10, x.2), (53, hd), (54, .int .i64 ((A q).length : Int)), (55, .int .i64 (x.1 : Int))]) (fun x => [rowHP x.2 3 1 x.1 (iV (((A q).take x.1).map fun u => c.getD u 0)), rowHP vo 3 1 N (iV c), rowHP vn 28 1 N hn1, starHP (kids rowN hn1 ((List.range N).map A)), boxHP b2 24 [.int .i64 (N : Int), v]]) (fun x => (A q).length - x.1) (0, .slice none 0 0) [0, 0, 0, 0, 0] (Nat.zero_le _) (by exact rfl) ⟨rfl, rfl, rfl, rfl, rfl, rfl, rfl, rfl, rfl, rfl, rfl, rfl, trivial⟩ ?_
    rintro ⟨k2, vu⟩ hk2
    dsimp only at hk2 ⊢
    refine know_row (v := vu) (.head _) fun hvu _ => ?_
    by_cases hkl2 : k2 < (A q).length
    · obtain ⟨u, hu⟩ : ∃ u, (A q)[k2]? = some u := ⟨_, List.getElem?_eq_getElem hkl2⟩
      have huN := hA q hq u (List.mem_of_getElem? hu)
      have hcu : (nV (A q))[k2 * 1]? = some (.int .i64 (u : Int)) := by simp [nV, hu]
      have hcv : (iV c)[u * 1]? = some (.int .i64 (c.getD u 0)) := by rw [Nat.mul_one, iV, List.getElem?_map, List.getD_eq_getElem?_getD, List.getElem?_eq_getElem (by omega)]; rfl
      have htk : iV (((A q).take (k2 + 1)).map fun u => c.getD u 0) = iV (((A q).take k2).map fun u => c.getD u 0) ++ [.int .i64 (c.getD u 0)] := by rw [List.take_add_one, hu]; simp [iV]
      repeat' first
        | refine k_then ?_ | refine c_seq ?_ | refine c_region ?_ | refine s_nil ?_ | refine s_move (by exact rfl) (by exact rfl) ?_ | refine s_assign (by exact rfl) (by exact rfl) ?_ | refine s_lss (by exact rfl) (by exact rfl) (by exact rfl) ?_ | refine s_idx (by exact rfl) (by exact rfl) (by exact rfl) (by assumption) (by first | assumption | omega) ?_ | refine s_ld_row (by exact rfl) (by exact rfl) (by exact .tail _ (.head _)) (by assumption) ?_ | refine s_ld_kid (by exact rfl) (by exact rfl) (by assumption) (by exact .tail _ (.tail _ (.tail _ (.head _)))) (by assumption) ?_ | refine c_block ?_ | refine c_skip ?_ | (refine c_cond_p (by exact rfl) (fun h => ?_) (fun h => ?_) <;> try (exfalso; omega)) | fail
      refine o_mk [.int .i64 (c.getD u 0)] (by exact rfl) (by exact rfl) rfl (by simp [Value.cells]) (by simp) (by simp) fun va hva => ?_
      skip
      refine o_append_row (i := 1) (by exact rfl) (by exact rfl) (by exact rfl) (by exact rfl) (by exact .head _) (by exact rfl) (by simp [Value.cells, Value.oneCell']) (by omega) fun vu2 hvu2 => ?_
      repeat' first
        | refine k_then ?_ | refine c_region ?_ | refine s_nil ?_ | refine s_move (by exact rfl) (by exact rfl) ?_ | refine s_assign (by exact rfl) (by exact rfl) ?_ | refine s_add (by exact rfl) (by exact rfl) (by exact rfl) (by omega) ?_ | refine k_blk ?_ | fail
      refine c_round (k2 + 1, vu2) [1, 1, 1, 1, 1] (by dsimp only; rw [htk]; exact rfl) ⟨rfl, rfl, rfl, rfl, rfl, rfl, rfl, rfl, rfl, rfl, rfl, rfl, trivial⟩ (by dsimp only; omega) (by dsimp only; omega)
    · repeat' first
        | refine k_then ?_ | refine c_seq ?_ | refine c_region ?_ | refine s_nil ?_ | refine s_move (by exact rfl) (by exact rfl) ?_ | refine s_lss (by exact rfl) (by exact rfl) (by exact rfl) ?_ | refine c_exit ?_ | refine k_then_exit ?_ | refine k_blk_eq ?_ | (refine c_cond_p (by exact rfl) (fun h => ?_) (fun h => ?_) <;> try (exfalso; omega)) | fail
      obtain rfl : k2 = (A q).length := by omega
      rw [List.take_length]
      refine s_call (vs := [vu]) (by exact rfl) (by exact rfl) (fun w h => Least_ok vu ((A q).map fun u => c.getD u 0) w (by simpa using hvu) (ro_own h (.head _))) ?_
      repeat' first
        | refine s_idx (by exact rfl) (by exact rfl) (by exact rfl) (by assumption) (by first | assumption | omega) ?_ | fail
      refine o_st_row (i := 1) (by exact rfl) (by exact rfl) (by exact rfl) rfl (by omega) ?_
      repeat' first
        | refine k_then ?_ | refine c_region ?_ | refine s_nil ?_ | refine s_move (by exact rfl) (by exact rfl) ?_ | refine s_add (by exact rfl) (by exact rfl) (by exact rfl) (by omega) ?_ | refine k_blk ?_ | fail
      have hset : (iV c).set (q * 1) (.int .i64 (leastK ((A q).map fun u => c.getD u 0) : Int)) = iV (gStep A c q) := by rw [Nat.mul_one, gStep, iV, iV, List.map_set]
      refine c_round (k + 1, gStep A c q) [1, 1, 1, 1] (by dsimp only; rw [← hset]; exact rfl) ⟨rfl, rfl, rfl, rfl, rfl, rfl, rfl, trivial⟩ ⟨by dsimp only; omega, by simp [gStep, hcl], hgr⟩ (by dsimp only; omega)
  · repeat' first
      | refine k_then ?_ | refine c_seq ?_ | refine c_region ?_ | refine s_nil ?_ | refine s_move (by exact rfl) (by exact rfl) ?_ | refine s_assign (by exact rfl) (by exact rfl) ?_ | refine s_lss (by exact rfl) (by exact rfl) (by exact rfl) ?_ | refine c_exit ?_ | refine c_ret ?_ | refine k_then_exit ?_ | refine k_blk_eq ?_ | (refine c_cond_p (by exact rfl) (fun h => ?_) (fun h => ?_) <;> try (exfalso; omega)) | fail
    obtain rfl : k = l.length := by omega
    rw [List.drop_length, greedyL] at hgr
    rw [hgr]
    refine retL [.tmp 4, .tmp 5] [vo, .int .i64 0] [0] rfl ⟨res_tmp rfl, res_tmp rfl, trivial⟩ (by exact rfl) ⟨vo, rfl, hcl, rfl⟩
end Go.Proofs.YtpajjnkmaebhcabGreat
end
section
namespace Fil
def okIn (n : Int) (l : List Int) : Prop := (∀ x ∈ l, 0 ≤ x ∧ x < n) ∧ l.Pairwise fun a b => a < b
def indP (es : List E) (l : List Int) : Prop := ∀ e ∈ es, ¬ (e.1 ∈ l ∧ e.2.1 ∈ l)
instance (n : Int) (l : List Int) : Decidable (okIn n l) := by unfold okIn; infer_instance
instance (es : List E) (l : List Int) : Decidable (indP es l) := by unfold indP; infer_instance
end Fil
namespace Go.Proofs.YtpajjnkmaebhcabGreat
open Go.RowKit Go.Sl Fil
set_option maxRecDepth 100000
set_option maxHeartbeats 8000000
set_option linter.unusedVariables false
set_option linter.unusedSimpArgs false
attribute [local irreducible] Code.wp wpList bodyPost wpQuiet Exit.then Exit.inBlock Post wpAnyH wpOp
end Go.Proofs.YtpajjnkmaebhcabGreat
end
section
namespace Go.Proofs.YtpajjnkmaebhcabGreat
open Go.RowKit Go.Sl Fil
set_option maxRecDepth 100000
set_option maxHeartbeats 8000000
set_option linter.unusedVariables false
set_option linter.unusedSimpArgs false
attribute [local irreducible] Code.wp wpList bodyPost wpQuiet Exit.then Exit.inBlock Post wpAnyH wpOp
end Go.Proofs.YtpajjnkmaebhcabGreat
end
section
namespace Fil
open Go.Sl
end Fil
namespace Go.Proofs.YtpajjnkmaebhcabGreat
open Go.RowKit Go.Sl Fil
set_option maxRecDepth 100000
set_option maxHeartbeats 8000000
set_option linter.unusedVariables false
set_option linter.unusedSimpArgs false
attribute [local irreducible] Code.wp wpList bodyPost wpQuiet Exit.then Exit.inBlock Post wpAnyH wpOp
theorem indexF_ok (v : Value) (es : List E) (f : FuncId) (caps : List Value) (p : E → Bool) (w : World) [FnTy Tryz.prog f] (hs : Shp v es.length) (hr : RO w No v (esV es))
    (hcl : ∀ (k : Nat) e, es[k]? = some e → ∀ w' S', Mod w No w' S' → Calls Tryz.prog f ([Value.agg (eV e).toArray] ++ caps).toArray w' (Post w' No (Just (.bool (p e))))) :
    Calls Tryz.prog 87 #[v, .func (.func f) #[] caps.toArray] w (Post w No (Just (.int .i64 (match es.findIdx? p with | some i => (i : Int) | none => -1)))) := by
  have hm := hs.1
  simp only [maxLen] at hm
  refine enter0 (vs := [_, _]) Tryz.func87 rfl Tryz.ntmps87 rfl ?_
  repeat' first
    | refine k_then ?_ | refine c_seq ?_ | refine c_region ?_ | refine s_nil ?_ | refine s_move (by exact rfl) (by exact rfl) ?_ | refine s_assign (by exact rfl) (by exact rfl) ?_ | refine s_len (by exact rfl) (by exact rfl) (by assumption) ?_ | refine c_block ?_
  refine c_loop (fun k : Nat => k ≤ es.length ∧ ∀ e ∈ es.take k, p e = false) (fun k => [(0, v), (1, .func (.func f) #[] caps.toArray), (6, v), (7, .int .i64 (es.length : Int)), (8, .int .i64 (k : Int))]) (fun _ => []) (fun k => es.length - k) 0 [] ⟨by omega, by simp⟩ rfl ⟨rfl, rfl, rfl, rfl, rfl, trivial⟩ ?_
  rintro k ⟨hk, hq⟩
  by_cases hlt : k < es.length
  · obtain ⟨e, he⟩ : ∃ e, es[k]? = some e := ⟨_, List.getElem?_eq_getElem hlt⟩
    have hE := esV_at he
    repeat' first
      | refine k_then ?_ | refine c_seq ?_ | refine c_region ?_ | refine s_nil ?_ | refine s_move (by exact rfl) (by exact rfl) ?_ | refine s_assign (by exact rfl) (by exact rfl) ?_ | refine s_lss (by exact rfl) (by exact rfl) (by exact rfl) ?_ | refine s_idx (by exact rfl) (by exact rfl) (by exact rfl) (by assumption) (by first | assumption | omega) ?_ | refine s_ldk_ro (by exact rfl) (by exact rfl) (by assumption) (by decide) (by assumption) (by exact rfl) ?_ | refine c_block ?_ | refine c_skip ?_ | (refine c_cond_p (by exact rfl) (fun h => ?_) (fun h => ?_) <;> try (exfalso; omega))
    refine s_callv (pre := []) (by exact rfl) (by exact rfl) (by exact rfl) (fun w h => h.mod0.elim fun S' hm => hcl k e he w S' hm) ?_
    cases hp : p e
    · repeat' first
        | refine k_then ?_ | refine c_region ?_ | refine s_nil ?_ | refine s_move (by exact rfl) (by exact rfl) ?_ | refine s_add (by exact rfl) (by exact rfl) (by exact rfl) (by omega) ?_ | refine c_skip ?_ | refine k_blk ?_ | refine c_cond_f (by exact rfl) ?_
      refine c_round (k + 1) [] (by exact rfl) ⟨rfl, rfl, rfl, rfl, rfl, trivial⟩ ⟨by omega, ?_⟩ (by omega)
      rw [List.take_add_one, he]
      intro a ha
      rcases List.mem_append.1 ha with ha | ha
      · exact hq a ha
      · obtain rfl : a = e := by simpa using ha
        exact hp
    · repeat' first
        | refine k_then ?_ | refine c_seq ?_ | refine c_region ?_ | refine s_nil ?_ | refine s_move (by exact rfl) (by exact rfl) ?_ | refine s_assign (by exact rfl) (by exact rfl) ?_ | refine c_ret ?_ | refine k_then_ret ?_ | refine k_blk_ret ?_ | refine c_cond_t (by exact rfl) ?_
      have hfi : es.findIdx? p = some k := by
        rw [List.findIdx?_eq_some_iff_getElem]
        obtain ⟨h1, h2⟩ := List.getElem?_eq_some_iff.1 he
        refine ⟨h1, by rw [h2]; exact hp, fun j hj => ?_⟩
        rw [hq _ (List.mem_take_iff_getElem.2 ⟨j, by omega, rfl⟩)]
        simp
      refine ret1 [] rfl rfl rfl ⟨by rw [hfi], rfl⟩
  · rw [List.take_of_length_le (by omega)] at hq
    repeat' first
      | refine k_then ?_ | refine c_seq ?_ | refine c_region ?_ | refine s_nil ?_ | refine s_assign (by exact rfl) (by exact rfl) ?_ | refine s_lss (by exact rfl) (by exact rfl) (by exact rfl) ?_ | refine c_exit ?_ | refine c_ret ?_ | refine k_then_exit ?_ | refine k_blk_eq ?_ | (refine c_cond_p (by exact rfl) (fun h => ?_) (fun h => ?_) <;> try (exfalso; omega))
    refine ret1 [] rfl rfl rfl ⟨by rw [List.findIdx?_eq_none_iff.2 hq], rfl⟩
theorem containsF_ok (v : Value) (es : List E) (f : FuncId) (caps : List Value) (p : E → Bool) (w : World) [FnTy Tryz.prog f] (hs : Shp v es.length) (hr : RO w No v (esV es))
    (hcl : ∀ (k : Nat) e, es[k]? = some e → ∀ w' S', Mod w No w' S' → Calls Tryz.prog f ([Value.agg (eV e).toArray] ++ caps).toArray w' (Post w' No (Just (.bool (p e))))) :
    Calls Tryz.prog 58 #[v, .func (.func f) #[] caps.toArray] w (Post w No (Just (.bool (es.any p)))) := by
  refine enter0 (vs := [_, _]) Tryz.func58 rfl Tryz.ntmps58 rfl ?_
  repeat' first
    | refine k_then ?_ | refine c_seq ?_ | refine c_region ?_ | refine s_nil ?_ | refine s_move (by exact rfl) (by exact rfl) ?_ | refine s_assign (by exact rfl) (by exact rfl) ?_
  refine s_call (by exact rfl) (by exact rfl) (fun w h => h.mod0.elim fun S' hm => indexF_ok v es f caps p w hs (ro_old h hr) fun k e he w' S2 hm2 => hcl k e he w' _ (mod_trans0 hm hm2)) ?_
  repeat' first
    | refine k_then ?_ | refine s_nil ?_ | refine s_assign (by exact rfl) (by exact rfl) ?_ | refine s_geq (by exact rfl) (by exact rfl) (by exact rfl) ?_ | refine c_ret ?_
  refine ret1 [] rfl rfl rfl ⟨congrArg Value.bool ?_, rfl⟩
  cases h : es.findIdx? p with
  | none =>
    have := List.findIdx?_eq_none_iff.1 h
    rw [List.any_eq_false.2 (fun x hx => by rw [this x hx]; simp)]
    simp
  | some i =>
    obtain ⟨h1, h2, _⟩ := List.findIdx?_eq_some_iff_getElem.1 h
    rw [List.any_eq_true.2 ⟨_, List.getElem_mem h1, h2⟩]
    simp
end Go.Proofs.YtpajjnkmaebhcabGreat
end
section
set_option linter.unusedVariables false
namespace Fil
def sameE (c : List Int) (e : E) : Bool := decide (c.getD e.1.toNat 0 = c.getD e.2.1.toNat 0)
def outC (most x : Int) : Bool := decide (x < 0) || decide (most ≤ x)
/-- which colours are right -/
def colK (n : Int) (es : List E) (c : List Int) (most : Int) : Int :=
  if rightK n es = 0 then (if (c.length : Int) ≠ n then 13 else if c.any (outC most) then 13 else if es.any (sameE c) then 13 else 0) else 1
end Fil
namespace Go.Proofs.YtpajjnkmaebhcabGreat
open Go Go.RowKit Go.Sl Fil
set_option maxRecDepth 100000
set_option maxHeartbeats 8000000
set_option linter.unusedVariables false
set_option linter.unusedSimpArgs false
attribute [local irreducible] Code.wp wpList bodyPost wpQuiet Exit.then Exit.inBlock Post wpAnyH wpOp
theorem colChk1_ok (x most : Int) (b : Nat) (w : World) (hb : RB w No b 3 [.int .i64 most]) : Calls Tryz.prog 57 #[.int .i64 x, .pointer (some ⟨b, 0, none⟩)] w (Post w No (Just (.bool (outC most x)))) := by
  refine enter0 (vs := [_, _]) Tryz.func57 rfl Tryz.ntmps57 rfl ?_
  unfold outC
  repeat' first
    | refine k_then ?_ | refine c_seq ?_ | refine c_region ?_ | refine s_nil ?_ | refine s_move (by exact rfl) (by exact rfl) ?_ | refine s_assign (by exact rfl) (by exact rfl) ?_ | refine s_lss (by exact rfl) (by exact rfl) (by exact rfl) ?_ | refine s_pick_t (by exact rfl) (by exact rfl) (by exact rfl) ?_ | refine s_pick_f (by exact rfl) (by exact rfl) (by exact rfl) ?_ | refine c_ret ?_ | (refine g_case (by exact rfl) (by exact rfl) (fun h => ?_) (fun h => ?_) <;> try (exfalso; omega)) | refine g_skip (by exact rfl) (by exact rfl) (by exact rfl) (by exact rfl) ?_ | refine w_move (by exact rfl) (by exact rfl) (by exact rfl) (by exact rfl) ?_ | refine w_geq (by exact rfl) (by exact rfl) (by exact rfl) (by exact rfl) (by exact rfl) ?_ | refine w_ld_rb (by exact rfl) (by exact rfl) (by exact rfl) (by exact rfl) (by assumption) (by exact rfl) ?_ | fail
  all_goals refine ret1 [] rfl rfl rfl ⟨by by_cases hx : x < 0 <;> simp_all <;> omega, rfl⟩
theorem colChk2_ok (e : E) (c : List Int) (n : Int) (vi : Value) (b : Nat) (w : World) (hb : RB w No b 28 [vi]) (hs : Shp vi c.length) (hr : RO w No vi (iV c)) (h1 : 0 ≤ e.1 ∧ e.1 < c.length) (h2 : 0 ≤ e.2.1 ∧ e.2.1 < c.length) :
    Calls Tryz.prog 59 #[.agg (eV e).toArray, .pointer (some ⟨b, 0, none⟩)] w (Post w No (Just (.bool (sameE c e)))) := by
  refine enter0 (vs := [_, _]) Tryz.func59 rfl Tryz.ntmps59 rfl ?_
  obtain ⟨p, hp⟩ : ∃ p : Nat, e.1 = (p : Int) := ⟨e.1.toNat, by omega⟩
  obtain ⟨q, hq⟩ : ∃ q : Nat, e.2.1 = (q : Int) := ⟨e.2.1.toNat, by omega⟩
  have hcp : (iV c)[p * 1]? = some (.int .i64 (c.getD p 0)) := by rw [Nat.mul_one, iV, List.getElem?_map, List.getD_eq_getElem?_getD, List.getElem?_eq_getElem (by omega)]; rfl
  have hcq : (iV c)[q * 1]? = some (.int .i64 (c.getD q 0)) := by rw [Nat.mul_one, iV, List.getElem?_map, List.getD_eq_getElem?_getD, List.getElem?_eq_getElem (by omega)]; rfl
  have hE : eV e = [.int .i64 (p : Int), .int .i64 (q : Int), .int .i64 e.2.2] := by rw [← hp, ← hq]; rfl
  rw [hE]
  repeat' first
    | refine k_then ?_ | refine c_seq ?_ | refine c_region ?_ | refine s_nil ?_ | refine s_assign (by exact rfl) (by exact rfl) ?_ | refine o_box (by exact rfl) (by exact rfl) (fun b => ?_) | fail
  refine p_begin0 [(0, true), (1, true), (2, true), (3, true), (4, true), (5, true), (6, true), (7, true), (8, true), (9, true), (10, true), (11, true)] (by kernel_rfl) ?_
  repeat' first
    | refine p_nil ?_
    | (refine p_at (by exact rfl) ?_
       first
        | refine t_assign (by exact rfl) (by exact rfl) (by exact fun _ h => h) ?_ | refine t_fa (by exact rfl) (by exact rfl) (by exact fun _ h => h) ?_ | refine t_ld_box (by exact rfl) (by exact rfl) (by exact .head _) (by exact rfl) (by exact fun _ h => h) ?_ | refine t_eql (by exact rfl) (by exact rfl) (by exact rfl) (by exact fun _ h => h) ?_ | refine t_idx (by exact rfl) (by exact rfl) (by exact rfl) (by assumption) (by first | assumption | omega) (by exact fun _ h => h) ?_ | refine t_ld_ro (by exact rfl) (by exact rfl) (by assumption) (by assumption) (by exact fun _ h => h) ?_ | refine t_ld_rb (by exact rfl) (by exact rfl) (by assumption) (by exact rfl) (by exact fun _ h => h) ?_ | fail)
    | fail
  repeat' first
    | refine k_then ?_ | refine c_ret ?_ | fail
  refine ret1 [] rfl rfl rfl ⟨by rw [sameE, hp, hq]; rfl, rfl⟩
theorem ColCheck_ok (n : Int) (v vi : Value) (es : List E) (c : List Int) (most : Int) (w : World) (hs : Shp v es.length) (hr : RO w No v (esV es)) (hm : es.length < 4611686018427387904) (hs2 : Shp vi c.length) (hr2 : RO w No vi (iV c)) :
    Calls Tryz.prog 31 #[.agg #[.int .i64 n, v], vi, .int .i64 most] w (Post w No (Just (.int .i64 (colK n es c most)))) := by
  have hlm := hs2.1
  simp only [maxLen] at hlm
  have h1 := hs2.one
  refine enter0 (vs := [_, _, _]) Tryz.func31 rfl Tryz.ntmps31 rfl ?_
  repeat' first
    | refine k_then ?_ | refine c_seq ?_ | refine c_region ?_ | refine s_nil ?_ | refine s_assign (by exact rfl) (by exact rfl) ?_ | refine s_ldk_box (by exact rfl) (by exact rfl) (by exact .tail _ (.tail _ (.head _))) (by exact rfl) (by exact rfl) ?_ | refine o_box (by exact rfl) (by exact rfl) (fun b => ?_) | refine c_block ?_ | fail
  rename_i b3 b4
  revert b; intro b5
  rw [one_cells h1]
  refine s_call (by exact rfl) (by exact rfl) (fun w h => Right_ok n v es w hs (ro_old h hr) hm) ?_
  by_cases hR0 : rightK n es = 0
  case neg =>
    repeat' first
      | refine k_then ?_ | refine c_seq ?_ | refine c_region ?_ | refine s_nil ?_ | refine s_assign (by exact rfl) (by exact rfl) ?_ | refine s_neq (by exact rfl) (by exact rfl) (by exact rfl) ?_ | refine c_ret ?_ | refine k_then_ret ?_ | refine k_blk_ret ?_ | (refine c_cond_p (by exact rfl) (fun h => ?_) (fun h => ?_) <;> try (exfalso; omega)) | fail
    all_goals first
      | exact absurd (Classical.byContradiction h) hR0
      | refine ret1 [] rfl rfl rfl ⟨by rw [colK, if_neg hR0], rfl⟩
  have hi : colK n es c most = if (c.length : Int) ≠ n then 13 else if c.any (outC most) then 13 else if es.any (sameE c) then 13 else 0 := by rw [colK, if_pos hR0]
  have hR := right_iff.1 hR0
  rw [hR0]
  by_cases hl : (c.length : Int) = n
  case neg =>
    rw [if_pos hl] at hi
    repeat' first
      | refine k_then ?_ | refine c_seq ?_ | refine c_region ?_ | refine s_nil ?_ | refine s_assign (by exact rfl) (by exact rfl) ?_ | refine s_fa (by exact rfl) (by exact rfl) ?_ | refine s_ld_box (by exact rfl) (by exact rfl) (by first | exact .tail _ (.head _) | exact .tail _ (.tail _ (.head _))) (by exact rfl) ?_ | refine s_neq (by exact rfl) (by exact rfl) (by exact rfl) ?_ | refine s_len (by exact rfl) (by exact rfl) (by assumption) ?_ | refine c_skip ?_ | refine c_ret ?_ | refine k_then_ret ?_ | refine k_blk_ret ?_ | (refine c_cond_p (by exact rfl) (fun h => ?_) (fun h => ?_) <;> try (exfalso; omega)) | fail
    refine ret1 [] rfl rfl rfl ⟨by rw [hi], rfl⟩
  rw [if_neg (by omega)] at hi
  repeat' first
    | refine k_then ?_ | refine c_seq ?_ | refine c_region ?_ | refine s_nil ?_ | refine s_assign (by exact rfl) (by exact rfl) ?_ | refine s_fa (by exact rfl) (by exact rfl) ?_ | refine s_ld_box (by exact rfl) (by exact rfl) (by first | exact .tail _ (.head _) | exact .tail _ (.tail _ (.head _))) (by exact rfl) ?_ | refine s_neq (by exact rfl) (by exact rfl) (by exact rfl) ?_ | refine s_len (by exact rfl) (by exact rfl) (by assumption) ?_ | (refine c_cond_p (by exact rfl) (fun h => ?_) (fun h => ?_) <;> try (exfalso; omega)) | fail
  refine o_mkf [] [.pointer (some ⟨b5, 0, none⟩)] (by exact rfl) (by exact rfl) (by exact rfl) ?_
  refine s_call (by exact rfl) (by exact rfl) (fun w h => containsFI_ok vi c 57 [.pointer (some ⟨b5, 0, none⟩)] (outC most) w hs2 (ro_old h hr2) fun k e he w' S' hm => colChk1_ok e most b5 w' (rb_mod (rb_own h (.head _)) hm)) ?_
  cases ho : c.any (outC most)
  case true =>
    rw [ho, if_pos rfl] at hi
    repeat' first
      | refine k_then ?_ | refine c_seq ?_ | refine c_region ?_ | refine s_nil ?_ | refine s_assign (by exact rfl) (by exact rfl) ?_ | refine c_ret ?_ | refine k_then_ret ?_ | refine k_blk_ret ?_ | refine c_cond_t (by exact rfl) ?_ | fail
    refine ret1 [] rfl rfl rfl ⟨by rw [hi], rfl⟩
  rw [ho, if_neg (by simp)] at hi
  repeat' first
    | refine k_then ?_ | refine c_seq ?_ | refine c_region ?_ | refine s_nil ?_ | refine s_assign (by exact rfl) (by exact rfl) ?_ | refine s_fa (by exact rfl) (by exact rfl) ?_ | refine s_ld_box (by exact rfl) (by exact rfl) (by exact .tail _ (.tail _ (.head _))) (by exact rfl) ?_ | refine c_cond_f (by exact rfl) ?_ | fail
  refine o_mkf [] [.pointer (some ⟨b4, 0, none⟩)] (by exact rfl) (by exact rfl) (by exact rfl) ?_
  refine s_call (by exact rfl) (by exact rfl) (fun w h => containsF_ok v es 59 [.pointer (some ⟨b4, 0, none⟩)] (sameE c) w hs (ro_old h hr) fun k e he w' S' hm => by
    obtain ⟨q1, q2, q3, q4, -⟩ := hR.ok e (List.mem_of_getElem? he)
    exact colChk2_ok e c n vi b4 w' (rb_mod (rb_own h (.tail _ (.head _))) hm) hs2 (ro_old h hr2 |>.fwd hm (fun _ h => h.elim)) (by omega) (by omega)) ?_
  cases hc : es.any (sameE c)
  · rw [hc, if_neg (by simp)] at hi
    repeat' first
      | refine k_then ?_ | refine c_seq ?_ | refine c_region ?_ | refine s_nil ?_ | refine s_assign (by exact rfl) (by exact rfl) ?_ | refine c_skip ?_ | refine c_ret ?_ | refine k_blk ?_ | refine c_cond_f (by exact rfl) ?_ | fail
    refine ret1 [] rfl rfl rfl ⟨by rw [hi], rfl⟩
  · rw [hc, if_pos rfl] at hi
    repeat' first
      | refine k_then ?_ | refine c_seq ?_ | refine c_region ?_ | refine s_nil ?_ | refine s_assign (by exact rfl) (by exact rfl) ?_ | refine c_ret ?_ | refine k_then_ret ?_ | refine k_blk_ret ?_ | refine c_cond_t (by exact rfl) ?_ | fail
    refine ret1 [] rfl rfl rfl ⟨by rw [hi], rfl⟩
end Go.Proofs.YtpajjnkmaebhcabGreat
end
