/- Plain: lists that are turned one by one. -/
import Derived.Test.YtkekpgkacjpjnaaPFill
namespace Fil
def mixL {α : Type} (g d : Nat → α) (N i : Nat) : List α := (List.range N).map fun j => if j < i then g j else d j
theorem mix_length {α : Type} (g d : Nat → α) (N i : Nat) : (mixL g d N i).length = N := by simp [mixL]
theorem mix_zero {α : Type} (g d : Nat → α) (N : Nat) : mixL g d N 0 = (List.range N).map d := by simp [mixL]
theorem mix_all {α : Type} (g d : Nat → α) (N : Nat) : mixL g d N N = (List.range N).map g := by
  apply List.map_congr_left
  intro u hu
  rw [if_pos (by simpa using hu)]
theorem mix_get {α : Type} (g d : Nat → α) {N i : Nat} (x : α) (hi : i < N) : (mixL g d N i).getD i x = d i := by simp [mixL, hi]
theorem mix_set {α : Type} (g d : Nat → α) {N i : Nat} (hi : i < N) : (mixL g d N i).set i (g i) = mixL g d N (i + 1) := by
  apply List.ext_getElem?
  intro k
  simp only [mixL, List.getElem?_set, List.getElem?_map, List.length_map, List.length_range]
  by_cases hk : k < N
  · rw [List.getElem?_eq_getElem (by simpa using hk)]
    simp only [List.getElem_range, Option.map_some]
    by_cases h1 : i = k
    · subst h1; simp [hi]
    · rw [if_neg h1]
      by_cases h2 : k < i
      · rw [if_pos h2, if_pos (by omega)]
      · rw [if_neg h2, if_neg (by omega)]
  · rw [List.getElem?_eq_none (by simpa using hk)]
    have : i ≠ k := by omega
    simp [this]
theorem mix_skip {α : Type} (g d : Nat → α) {N i : Nat} (h : g i = d i) : mixL g d N (i + 1) = mixL g d N i := by
  apply List.map_congr_left
  intro j _
  by_cases h1 : j < i
  · rw [if_pos h1, if_pos (by omega)]
  · rw [if_neg h1]
    split
    · obtain rfl : j = i := by omega
      exact h
    · rfl
/-- how often a vertex has been left out below shift s -/
def cntF (o : Nat → Nat) (k s : Nat) (v : Nat) : Nat := if o v % (k + 1) < s then 1 else 0
theorem cntF_step {o : Nat → Nat} {k s v : Nat} : cntF o k (s + 1) v = cntF o k s v + (if o v % (k + 1) = s then 1 else 0) := by
  simp only [cntF]
  (repeat' split) <;> omega
theorem cntF_all (o : Nat → Nat) (k v : Nat) : cntF o k (k + 1) v = 1 := if_pos (Nat.mod_lt _ (by omega))
theorem cntF_zero (o : Nat → Nat) (k v : Nat) : cntF o k 0 v = 0 := by simp [cntF]
end Fil
