/- Plain: levels are told by the edges alone; some edges of a right graph are one. -/
import Derived.Test.YtkekpgkacjpjnaaPComp
namespace Fil
theorem RightG.filter {n : Int} {es : List E} (h : RightG n es) (p : E → Bool) : RightG n (es.filter p) where
  lo := h.lo
  hi := h.hi
  many := Nat.le_trans (List.length_filter_le _ _) h.many
  ok e he := h.ok e (List.mem_filter.1 he).1
  sorted := h.sorted.filter _

/-- two ways of labelling are one -/
theorem Lev.lab_eq {N : Nat} {A : Nat → List Nat} {o o' lab lab' : Nat → Nat} (h : Lev N A o lab) (h' : Lev N A o' lab') : ∀ v, v < N → lab v = lab' v := by
  have key : ∀ {o o' lab lab' : Nat → Nat}, Lev N A o lab → Lev N A o' lab' → ∀ v, v < N → lab v ≤ lab' v := by
    intro o o' lab lab' h h' v hv
    have h1 := h'.conn v hv lab (fun w hw u hu => (h.edge w hw u hu).1)
    have h2 := h'.le v hv
    have h3 := h.le (lab' v) (by omega)
    omega
  intro v hv
  exact Nat.le_antisymm (key h h' v hv) (key h' h v hv)

theorem Lev.o_le {N : Nat} {A : Nat → List Nat} {o o' lab lab' : Nat → Nat} (hA : Adj N A) (h : Lev N A o lab) (h' : Lev N A o' lab') : ∀ k v, v < N → o' v = k → o v ≤ k := by
  intro k
  induction k with
  | zero =>
    intro v hv hk
    have h1 := (h'.root v hv).1 hk
    rw [← h.lab_eq h' v hv] at h1
    have := (h.root v hv).2 h1
    omega
  | succ k ih =>
    intro v hv hk
    obtain ⟨u, hu, huk⟩ := h'.up v k hv hk
    have hun := hA.lt v hv u hu
    have := ih u hun huk
    have := (h.edge u hun v (hA.sym v u hv hu)).2
    omega
theorem Lev.o_eq {N : Nat} {A : Nat → List Nat} {o o' lab lab' : Nat → Nat} (hA : Adj N A) (h : Lev N A o lab) (h' : Lev N A o' lab') : ∀ v, v < N → o v = o' v :=
  fun v hv => Nat.le_antisymm (h.o_le hA h' _ v hv rfl) (h'.o_le hA h _ v hv rfl)
end Fil
