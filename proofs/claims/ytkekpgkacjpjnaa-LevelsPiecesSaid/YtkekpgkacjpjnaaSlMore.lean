/- Entries within entries: the first one taken out. -/
import Derived.Test.YtkekpgkacjpjnaaSlNest
set_option linter.unusedVariables false
namespace Go.Sl
open Go Go.RowKit
section
variable {P : Program} {w0 : World} {S0 : FS} {n : Nat} {F : List (Nat × Value)} {L : List HP} {R : Act → World → Prop}
theorem St.uncons {w : World} {A : HP} {Ks : List HP} {i : Nat} (hi : L[i]? = some (starHP (A :: Ks))) (h : St w0 S0 L w) : St w0 S0 (A :: L.set i (starHP Ks)) w := by
  obtain ⟨S, hm, hl⟩ := h
  obtain ⟨S1, S2, h1, h2, hd, ha, hl⟩ := sats_get hi hl
  obtain ⟨T1, T2, t1, t2, td, ta, tl⟩ := ha
  have hi' : i < L.length := (List.getElem?_eq_some_iff.1 hi).1
  have hs' := sats_put (A := starHP Ks) hi' tl hl (fun j hj hj2 => hd j (t2 j hj) hj2)
  refine ⟨S, hm, T1, _, fun j hj => h1 j (t1 j hj), ?_, ?_, ta, hs'⟩
  · rintro j (hj | hj)
    · exact h1 j (t2 j hj)
    · exact h2 j hj
  · rintro j hj (hj2 | hj2)
    · exact td j hj hj2
    · exact hd j (t1 j hj) hj2
theorem c_uncons {A : HP} {Ks : List HP} (i : Nat) (hi : L[i]? = some (starHP (A :: Ks))) (h : Reach w0 S0 n F (A :: L.set i (starHP Ks)) R) : Reach w0 S0 n F L R := h.conv fun _ => St.uncons hi
theorem kids_drop {α : Type} {f : Value → α → HP} {hs : List Value} {ls : List α} {k : Nat} {h : Value} {l : α} (h1 : hs[k]? = some h) (h2 : ls[k]? = some l) : kids f (hs.drop k) (ls.drop k) = f h l :: kids f (hs.drop (k + 1)) (ls.drop (k + 1)) := by
  obtain ⟨h3, rfl⟩ := List.getElem?_eq_some_iff.1 h1
  obtain ⟨h4, rfl⟩ := List.getElem?_eq_some_iff.1 h2
  rw [List.drop_eq_getElem_cons h3, List.drop_eq_getElem_cons h4]
  rfl
/-- one that waits for a guard that is met -/
theorem g_on {ops : Array Oper} {Q : Exit → Act → World → Prop} {rest : List Oper} {ds : Option Tmp} {op : Op} {ty : TypeId} {ps : String} {af : Array Edge} {gd : Nat × Bool} {t : Nat} {want : Bool} (hg : gslot ops ⟨ds, op, ty, ps, af, some gd⟩ = some (t, want)) (ht : fget F t = some (.bool want))
    (h : Reach w0 S0 n F L (wpList P ops Q (⟨ds, op, ty, ps, af, none⟩ :: rest))) : Reach w0 S0 n F L (wpList P ops Q (⟨ds, op, ty, ps, af, some gd⟩ :: rest)) := by
  intro a w hf hs
  have h1 := h a w hf hs
  have e1 := wanted_of hf hg ht
  unfold wpList at h1 ⊢
  rw [e1]
  simp only [Region.wanted, beq_self_eq_true, if_true] at h1 ⊢
  exact h1
end
end Go.Sl
