/- slices.Sort at integers, over a row of one's own or one that was lent. -/
import Derived.Test.YtkekpgkacjpjnaaSlCut
import Derived.Test.YtkekpgkacjpjnaaTy
import Derived.Shelf.SortM.Plain
import Derived.Shelf.SortM.SortNone
import Derived.Shelf.SlGeneric
import Derived.Ground.SlgmProg
import Derived.Sort.OwnSortedInts
namespace Go.Proofs
open Go.Shelf
def Try.sortInts_ren : Go.Shelf.Ren := ⟨fun | 5 => 52 | 8 => 74 | 7 => 73 | 19 => 95 | 20 => 96 | 10 => 86 | 11 => 87 | 12 => 88 | 13 => 89 | 14 => 90 | 15 => 91 | 16 => 92 | 17 => 93 | 18 => 94 | 30 => 103 | 31 => 104 | 32 => 105 | 33 => 106 | 34 => 107 | 35 => 97 | 40 => 109 | n => n, fun | 23 => 27 | 25 => 3 | 3 => 3 | 32 => 105 | 22 => 27 | 0 => 0 | 44 => 131 | 46 => 133 | 4 => 4 | 36 => 124 | 35 => 123 | 41 => 117 | 5 => 5 | 9 => 9 | 53 => 136 | 57 => 140 | 63 => 143 | 64 => 144 | n => n, fun | n => n⟩
theorem Try.sortInts : Go.Proofs.SlLaysM.n5 Try.prog Try.sortInts_ren := {
  mixed := by kernel_rfl
  f5 := ⟨Try.f52.name, by decide, Try.func52.trans (congrArg some (by kernel_rfl))⟩
  f7 := ⟨Try.f73.name, by decide, Try.func73.trans (congrArg some (by kernel_rfl))⟩
  f8 := Try.func74.trans (congrArg some (by kernel_rfl))
  f10 := ⟨Try.f86.name, by decide, Try.func86.trans (congrArg some (by kernel_rfl))⟩
  f11 := ⟨Try.f87.name, by decide, Try.func87.trans (congrArg some (by kernel_rfl))⟩
  f12 := ⟨Try.f88.name, by decide, Try.func88.trans (congrArg some (by kernel_rfl))⟩
  f13 := ⟨Try.f89.name, by decide, Try.func89.trans (congrArg some (by kernel_rfl))⟩
  f14 := ⟨Try.f90.name, by decide, Try.func90.trans (congrArg some (by kernel_rfl))⟩
  f15 := ⟨Try.f91.name, by decide, Try.func91.trans (congrArg some (by kernel_rfl))⟩
  f16 := ⟨Try.f92.name, by decide, Try.func92.trans (congrArg some (by kernel_rfl))⟩
  f17 := ⟨Try.f93.name, by decide, Try.func93.trans (congrArg some (by kernel_rfl))⟩
  f18 := ⟨Try.f94.name, by decide, Try.func94.trans (congrArg some (by kernel_rfl))⟩
  f19 := Try.func95.trans (congrArg some (by kernel_rfl))
  f20 := Try.func96.trans (congrArg some (by kernel_rfl))
  f30 := ⟨Try.f103.name, by decide, Try.func103.trans (congrArg some (by kernel_rfl))⟩
  f31 := Try.func104.trans (congrArg some (by kernel_rfl))
  f32 := Try.func105.trans (congrArg some (by kernel_rfl))
  f33 := ⟨Try.f106.name, by decide, Try.func106.trans (congrArg some (by kernel_rfl))⟩
  f34 := ⟨Try.f107.name, by decide, Try.func107.trans (congrArg some (by kernel_rfl))⟩
  f35 := ⟨Try.f97.name, by decide, Try.func97.trans (congrArg some (by kernel_rfl))⟩
  f40 := ⟨Try.f109.name, by decide, Try.func109.trans (congrArg some (by kernel_rfl))⟩
  t0 := Try.underlying0
  a0 := Try.isAgg0
  z0 := Try.sizeOf0
  v0 := Try.zeroValue0
  t3 := Try.underlying3
  a3 := Try.isAgg3
  z3 := Try.sizeOf3
  v3 := Try.zeroValue3
  t4 := Try.underlying4
  a4 := Try.isAgg4
  z4 := Try.sizeOf4
  v4 := Try.zeroValue4
  t5 := Try.underlying5
  a5 := Try.isAgg5
  z5 := Try.sizeOf5
  v5 := Try.zeroValue5
  t9 := Try.underlying9
  a9 := Try.isAgg9
  z9 := Try.sizeOf9
  v9 := Try.zeroValue9
  t22 := Try.underlying27
  a22 := Try.isAgg27
  z22 := Try.sizeOf27
  v22 := Try.zeroValue27
  t23 := Try.underlying27
  a23 := Try.isAgg27
  z23 := Try.sizeOf27
  v23 := Try.zeroValue27
  t25 := Try.underlying3
  a25 := Try.isAgg3
  z25 := Try.sizeOf3
  v25 := Try.zeroValue3
  t32 := Try.underlying105
  a32 := Try.isAgg105
  z32 := Try.sizeOf105
  v32 := Try.zeroValue105
  t35 := Try.underlying123
  a35 := Try.isAgg123
  z35 := Try.sizeOf123
  v35 := Try.zeroValue123
  t36 := Try.underlying124
  a36 := Try.isAgg124
  z36 := Try.sizeOf124
  v36 := Try.zeroValue124
  t41 := Try.underlying117
  a41 := Try.isAgg117
  z41 := Try.sizeOf117
  v41 := Try.zeroValue117
  t44 := Try.underlying131
  a44 := Try.isAgg131
  z44 := Try.sizeOf131
  v44 := Try.zeroValue131
  t46 := Try.underlying133
  a46 := Try.isAgg133
  z46 := Try.sizeOf133
  v46 := Try.zeroValue133
  t53 := Try.underlying136
  a53 := Try.isAgg136
  z53 := Try.sizeOf136
  v53 := Try.zeroValue136
  t57 := Try.underlying140
  a57 := Try.isAgg140
  z57 := Try.sizeOf140
  v57 := Try.zeroValue140
  t63 := Try.underlying143
  a63 := Try.isAgg143
  z63 := Try.sizeOf143
  v63 := Try.zeroValue143
  t64 := Try.underlying144
  a64 := Try.isAgg144
  z64 := Try.sizeOf144
  v64 := Try.zeroValue144 }
end Go.Proofs
namespace Go.Sl
open Go Go.RowKit Go.Sort Go.Proofs

def iV (l : List Int) : List Value := l.map (Value.int .i64)
def nV (l : List Nat) : List Value := l.map fun (k : Nat) => .int .i64 (k : Int)

theorem putCells_take (cur : Array Value) (off : Nat) (ts : List Int) (h : off + ts.length ≤ cur.size) : ((putCells (Value.int .i64) off ts.toArray cur).toList.drop off).take ts.length = ts.map (Value.int .i64) := by
  apply List.ext_getElem?
  intro j
  by_cases hj : j < ts.length
  · rw [List.getElem?_take_of_lt hj, List.getElem?_drop, Array.getElem?_toList]
    simp [putCells, hj, show off + j < cur.size by omega]
  · rw [List.getElem?_take_eq_none (by omega), List.getElem?_eq_none (by simp; omega)]

theorem sort_row {w : World} {v : Value} {e : TypeId} {l : List Int} {S : FS} (h : (rowHP v e 1 l.length (iV l)).sat S w) (hlen : l.length < 4611686018427387904) :
    Calls Try.prog 52 #[v] w (Post w S fun r L' => r = .tuple #[] ∧ L' = [rowHP v e 1 l.length (iV (l.mergeSort fun x y => decide (x ≤ y)))]) := by
  rcases h.2 with ⟨rfl, h0⟩ | ⟨g, off, cap, cur, rfl, h2, h3, h4, h5, h6, h7⟩ | ⟨⟨g, off, rfl⟩, h0⟩
  · have hl : l = [] := List.eq_nil_of_length_eq_zero h0
    subst hl
    have c := AnyM.slices_Sort_int_none Try.sortInts none 0 w
    change Calls Try.prog 52 _ _ _ at c
    refine Calls.mono c ?_
    rintro e' w' ⟨rfl, hw⟩
    subst hw
    refine ⟨_, _, ⟨rfl, rfl⟩, rfl, S, Mod.refl _ _, S, fun _ => False, fun _ h => h, fun _ h => h.elim, fun _ _ h => h, ?_, trivial⟩
    simpa [iV] using h
  · have hg := (Array.getElem?_eq_some_iff.1 h3).1
    have hH : Holds (Value.int .i64) w g off l.toArray := by
      intro j hj
      have hj' : j < l.length := by simpa using hj
      refine ⟨?_, by simp [World.frozen?, h3]⟩
      have h1 : ((cur.toList.drop off).take (l.length * 1))[j]? = (iV l)[j]? := by rw [h7]
      rw [List.getElem?_take_of_lt (by omega), List.getElem?_drop] at h1
      simp only [World.cell?, h3]
      simp only [Option.isSome_none, Bool.false_eq_true, if_false]
      rw [← Array.getElem?_toList, h1]
      simp [iV, hj']
    have c := AnyM.slices_Sort_int Try.sortInts g off cap l w hH hg hlen
    change Calls Try.prog 52 _ _ _ at c
    refine Calls.mono c ?_
    rintro e' w' ⟨rfl, n, os, rfl⟩
    refine ⟨_, _, ⟨rfl, rfl⟩, rfl, S, ⟨rfl, rfl, rfl, by simp, fun k hk hS => ?_, fun k h => .inl h⟩, S, fun _ => False, fun _ h => h, fun _ h => h.elim, fun _ _ h => h, ?_, trivial⟩
    · rw [heap_grow_old _ _ (by simpa using hk)]
      have : g ≠ k := fun e => hS (by rw [← e]; exact h2)
      simp [putRow, mapBlock, Sort.ahead, Array.getElem?_modify, this]
    · have hlen' : (l.mergeSort fun x y => decide (x ≤ y)).length = l.length := List.length_mergeSort _
      refine ⟨by simp [iV], .inr (.inl ⟨g, off, cap, putCells (Value.int .i64) off (l.mergeSort fun x y => decide (x ≤ y)).toArray cur, rfl, h2, ?_, h4, h5, by simp [putCells, h6], ?_⟩)⟩
      · rw [heap_grow_old _ _ (by simpa using hg)]
        simp [putRow, mapBlock, Sort.ahead, Array.getElem?_modify, h3, onCells]
      · have := putCells_take cur off (l.mergeSort fun x y => decide (x ≤ y)) (by rw [hlen', h6]; omega)
        rw [hlen'] at this
        rw [Nat.mul_one]
        exact this
  · have hl : l = [] := List.eq_nil_of_length_eq_zero h0
    subst hl
    have c := AnyM.slices_Sort_int_none Try.sortInts (some ⟨g, off, none⟩) 0 w
    change Calls Try.prog 52 _ _ _ at c
    refine Calls.mono c ?_
    rintro e' w' ⟨rfl, hw⟩
    subst hw
    refine ⟨_, _, ⟨rfl, rfl⟩, rfl, S, Mod.refl _ _, S, fun _ => False, fun _ h => h, fun _ h => h.elim, fun _ _ h => h, ?_, trivial⟩
    simpa [iV] using h

theorem nat_sort (l : List Nat) : (l.map fun (k : Nat) => (k : Int)).mergeSort (fun x y => decide (x ≤ y)) = (l.mergeSort fun x y => decide (x ≤ y)).map fun (k : Nat) => (k : Int) := by
  exact (List.map_mergeSort (r := fun (x y : Nat) => decide (x ≤ y)) (s := fun (x y : Int) => decide (x ≤ y)) (f := fun (k : Nat) => (k : Int)) (fun a _ b _ => by simp)).symm

theorem nsort_row {w : World} {v : Value} {e : TypeId} {l : List Nat} {S : FS} (h : (rowHP v e 1 l.length (nV l)).sat S w) (hlen : l.length < 4611686018427387904) :
    Calls Try.prog 52 #[v] w (Post w S fun r L' => r = .tuple #[] ∧ L' = [rowHP v e 1 l.length (nV (l.mergeSort fun x y => decide (x ≤ y)))]) := by
  have e1 : ∀ l : List Nat, nV l = iV (l.map fun (k : Nat) => (k : Int)) := fun l => by simp [nV, iV]
  rw [e1] at h
  have := sort_row (l := l.map fun (k : Nat) => (k : Int)) (by simpa using h) (by simpa using hlen)
  rw [nat_sort, List.length_map] at this
  simpa only [e1] using this
end Go.Sl
