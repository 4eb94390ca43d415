/- Plain: the pieces that are left by a shift are thin, apart, and no edge goes from one to another. -/
import Derived.Test.YtkekpgkacjpjnaaPieces
set_option linter.unusedVariables false
namespace Fil
open Go.Proofs.Ytkekpgkacjpjnaa (keepE)
theorem mem_tn {es : List E} {u v : Nat} : (u, v) ∈ tn es ↔ ∃ e ∈ es, e.1.toNat = u ∧ e.2.1.toNat = v := by
  simp only [tn, List.mem_map, Prod.mk.injEq]
theorem RightG.tn_ne {n : Int} {es : List E} (h : RightG n es) : ∀ e ∈ tn es, e.1 ≠ e.2 := fun e he => by
  have := h.good.lt e he; omega
theorem only_edge {n : Int} {es : List E} {kept : List Bool} (hR : RightG n es) {u v : Nat} : u ∈ nb (tn (es.filter (keepE kept))) v ↔ kept.getD u false = true ∧ kept.getD v false = true ∧ u ∈ nb (tn es) v := by
  rw [mem_nb (hR.filter _).tn_ne, mem_nb hR.tn_ne]
  simp only [mem_tn, List.mem_filter, keepE, Bool.and_eq_true]
  constructor
  · rintro (⟨e, ⟨h1, h2, h3⟩, rfl, rfl⟩ | ⟨e, ⟨h1, h2, h3⟩, rfl, rfl⟩)
    · exact ⟨h3, h2, .inl ⟨e, h1, rfl, rfl⟩⟩
    · exact ⟨h2, h3, .inr ⟨e, h1, rfl, rfl⟩⟩
  · rintro ⟨h1, h2, ⟨e, h3, rfl, rfl⟩ | ⟨e, h3, rfl, rfl⟩⟩
    · exact .inl ⟨e, ⟨h3, h2, h1⟩, rfl, rfl⟩
    · exact .inr ⟨e, ⟨h3, h1, h2⟩, rfl, rfl⟩

theorem thin_kept {n : Int} {es : List E} {kept : List Bool} {o' lab' : Nat → Nat} (hR : RightG n es) (h : Lev n.toNat (nb (tn (es.filter (keepE kept)))) o' lab') {v : Nat} (hv : v < n.toNat) : kept.getD v false = kept.getD (lab' v) false := by
  have := h.conn v hv (fun v => if kept.getD v false = true then 1 else 0) fun w hw u hu => by
    obtain ⟨h1, h2, _⟩ := (only_edge hR).1 hu
    simp only [h1, h2]
  cases h1 : kept.getD v false <;> cases h2 : kept.getD (lab' v) false <;> simp only [h1, h2, Bool.false_eq_true, if_true, if_false, reduceCtorEq] at this ⊢ <;> omega
theorem thin_block {n : Int} {es : List E} {k s : Nat} {o lab o' lab' : Nat → Nat} (hR : RightG n es) (hL : Lev n.toNat (nb (tn es)) o lab) (hs : s ≤ k) (h : Lev n.toNat (nb (tn (es.filter (keepE (keptL n.toNat k s o))))) o' lab') {v : Nat} (hv : v < n.toNat) (hk : o v % (k + 1) ≠ s) : (o v + (k + 1) - s) / (k + 1) = (o (lab' v) + (k + 1) - s) / (k + 1) := by
  have hle := h.le v hv
  have hkv : ∀ u, u < n.toNat → ((keptL n.toNat k s o).getD u false = true ↔ (o u + (k + 1) - s) % (k + 1) ≠ 0) := fun u hu => by
    rw [keptL_get hu, decide_eq_true_iff, ne_eq, ← shift_iff hs, Nat.add_assoc]
  have h1 : (keptL n.toNat k s o).getD v false = true := by rw [keptL_get hv]; simpa using hk
  have h2 := (thin_kept hR h hv).symm.trans h1
  have := h.conn v hv (fun v => if (keptL n.toNat k s o).getD v false = true then (o v + (k + 1) - s) / (k + 1) else 0) fun w hw u hu => by
    obtain ⟨h1, h2, h3⟩ := (only_edge hR).1 hu
    dsimp only
    rw [if_pos h1, if_pos h2]
    have hun := hR.good.adj.lt w hw u h3
    have e1 := (hL.edge w hw u h3).2
    have e2 := (hL.edge u hun w (hR.good.adj.sym w u hw h3)).2
    exact block_step (by omega) (by omega) (by omega) ((hkv u hun).1 h1) ((hkv w hw).1 h2)
  simp only [h1, h2, if_true] at this
  exact this

theorem sel_mem {N : Nat} {kept : List Bool} {lab : Nat → Nat} (hle : ∀ v, v < N → lab v ≤ v) {c : List Nat} (h : c ∈ selL kept (compsS N lab)) : ∃ r t, r < N ∧ c = r :: t ∧ kept.getD r false = true ∧ lab r = r ∧ ∀ v, v ∈ c ↔ v < N ∧ lab v = r := by
  obtain ⟨h1, h2⟩ := List.mem_filter.1 h
  obtain ⟨r, hr, hl, rfl⟩ := comp_mem h1
  obtain ⟨t, ht⟩ := comp_head hr hl hle
  refine ⟨r, t, hr, ht, by rw [ht] at h2; exact h2, hl, fun v => by simp⟩
theorem sel_nodup {N : Nat} {kept : List Bool} {lab : Nat → Nat} {c : List Nat} (h : c ∈ selL kept (compsS N lab)) : c.Nodup := by
  obtain ⟨r, hr, hl, rfl⟩ := comp_mem (List.mem_filter.1 h).1
  exact List.nodup_range.filter _
theorem sel_apart {N : Nat} {kept : List Bool} {lab : Nat → Nat} {i j v : Nat} {c d : List Nat} (hi : (selL kept (compsS N lab))[i]? = some c) (hj : (selL kept (compsS N lab))[j]? = some d) (hc : v ∈ c) (hd : v ∈ d) : i = j := by
  have hp : (selL kept (compsS N lab)).Pairwise fun c d => ∀ v, v ∈ c → v ∈ d → False := by
    refine List.Pairwise.filter _ ?_
    rw [compsS, compsI, List.pairwise_map]
    refine List.Pairwise.imp ?_ (List.nodup_range.filter _)
    intro a b hab v h1 h2
    have h1 := (List.mem_filter.1 h1).2
    have h2 := (List.mem_filter.1 h2).2
    simp at h1 h2
    omega
  rw [List.pairwise_iff_getElem] at hp
  obtain ⟨hi1, rfl⟩ := List.getElem?_eq_some_iff.1 hi
  obtain ⟨hj1, rfl⟩ := List.getElem?_eq_some_iff.1 hj
  rcases Nat.lt_trichotomy i j with h | h | h
  · exact (hp i j hi1 hj1 h v hc hd).elim
  · exact h
  · exact (hp j i hj1 hi1 h v hd hc).elim
theorem sel_span {n : Int} {es : List E} {k s : Nat} {o lab o' lab' : Nat → Nat} (hR : RightG n es) (hL : Lev n.toNat (nb (tn es)) o lab) (hs : s ≤ k) (hk : 1 ≤ k) (h : Lev n.toNat (nb (tn (es.filter (keepE (keptL n.toNat k s o))))) o' lab') {c : List Nat} (hc : c ∈ selL (keptL n.toNat k s o) (compsS n.toNat lab')) :
    ∃ base, base ≤ n.toNat ∧ ∀ v ∈ c, v < n.toNat ∧ base ≤ o v ∧ o v + 1 ≤ base + k := by
  obtain ⟨r, t, hr, rfl, hkr, hlr, hm⟩ := sel_mem h.le hc
  have hspan : ∀ v, v ∈ r :: t → v < n.toNat ∧ (k + 1) * ((o r + (k + 1) - s) / (k + 1)) + s + 1 - (k + 1) ≤ o v ∧ o v ≤ ((k + 1) * ((o r + (k + 1) - s) / (k + 1)) + s + 1 - (k + 1)) + (k + 1 - 2) := fun v hv => by
    obtain ⟨hvn, hlv⟩ := (hm v).1 hv
    have hkv : (keptL n.toNat k s o).getD v false = true := by rw [thin_kept hR h hvn, hlv]; exact hkr
    have hkv2 : o v % (k + 1) ≠ s := by rw [keptL_get hvn] at hkv; simpa using hkv
    have hb := thin_block hR hL hs h hvn hkv2
    rw [hlv] at hb
    have h0 : (o v + (k + 1) - s) % (k + 1) ≠ 0 := fun e => hkv2 ((shift_iff hs).1 (by rw [Nat.add_assoc]; exact e))
    exact ⟨hvn, block_span (by omega) (by omega) rfl hb h0⟩
  refine ⟨(k + 1) * ((o r + (k + 1) - s) / (k + 1)) + s + 1 - (k + 1), ?_, fun v hv => ?_⟩
  · have h1 := (hspan r (by simp)).2.1
    have h2 := hL.lt hR.good.adj r hr
    omega
  · obtain ⟨h1, h2, h3⟩ := hspan v hv
    exact ⟨h1, h2, by omega⟩
theorem sel_edge {n : Int} {es : List E} {kept : List Bool} {o' lab' : Nat → Nat} (hR : RightG n es) (h : Lev n.toNat (nb (tn (es.filter (keepE kept)))) o' lab') {c d : List Nat} (hc : c ∈ selL kept (compsS n.toNat lab')) (hd : d ∈ selL kept (compsS n.toNat lab')) {u v : Nat} (hu : u ∈ c) (hv : v ∈ d) (huv : v ∈ nb (tn es) u) : v ∈ c := by
  obtain ⟨r, t, hr, rfl, hkr, hlr, hm⟩ := sel_mem h.le hc
  obtain ⟨q, t', hq, rfl, hkq, hlq, hm'⟩ := sel_mem h.le hd
  obtain ⟨hu1, hu2⟩ := (hm u).1 hu
  obtain ⟨hv1, hv2⟩ := (hm' v).1 hv
  have ku : kept.getD u false = true := by rw [thin_kept hR h hu1, hu2]; exact hkr
  have kv : kept.getD v false = true := by rw [thin_kept hR h hv1, hv2]; exact hkq
  have := (h.edge u hu1 v ((only_edge hR).2 ⟨kv, ku, huv⟩)).1
  exact (hm v).2 ⟨hv1, by rw [this, hu2]⟩

/-- what has been marked: those of the lists before the x-th, and y of that one -/
def Marked (cs : List (List Nat)) (x y : Nat) (l : List Nat) : Prop := ∀ v, l.getD v 0 ≠ 0 → ∃ j c, cs[j]? = some c ∧ l.getD v 0 = j + 1 ∧ v ∈ c ∧ (j < x ∨ j = x ∧ v ∈ c.take y)
theorem Marked.zero {N : Nat} {kept : List Bool} {lab : Nat → Nat} {x y v : Nat} {l c : List Nat} (h : Marked (selL kept (compsS N lab)) x y l) (hc : (selL kept (compsS N lab))[x]? = some c) (hv : c[y]? = some v) : l.getD v 0 = 0 := by
  refine Decidable.byContradiction fun h0 => ?_
  obtain ⟨j, d, hj, _, hvd, h1⟩ := h v h0
  have := sel_apart hj hc hvd (List.mem_of_getElem? hv)
  rcases h1 with h1 | ⟨_, h1⟩
  · omega
  · subst this
    rw [hc] at hj
    obtain rfl : c = d := by simpa using hj
    have hn := sel_nodup (List.mem_of_getElem? hc)
    obtain ⟨i, hi⟩ := List.mem_iff_getElem?.1 h1
    rw [List.getElem?_take] at hi
    split at hi
    · rename_i hlt
      obtain ⟨h3, h4⟩ := List.getElem?_eq_some_iff.1 hi
      obtain ⟨h5, h6⟩ := List.getElem?_eq_some_iff.1 hv
      have hne := List.pairwise_iff_getElem.1 hn i y h3 h5 hlt
      exact hne (by rw [h4, h6])
    · simp at hi
theorem Marked.put {cs : List (List Nat)} {x y v : Nat} {l c : List Nat} (h : Marked cs x y l) (hc : cs[x]? = some c) (hv : c[y]? = some v) : Marked cs x (y + 1) (l.set v (x + 1)) := by
  intro u hu
  rw [getD_set] at hu ⊢
  split
  · rename_i e
    obtain ⟨rfl, _⟩ := e
    exact ⟨x, c, hc, rfl, List.mem_of_getElem? hv, .inr ⟨rfl, by rw [List.take_add_one, hv]; simp⟩⟩
  · rename_i e
    rw [if_neg e] at hu
    obtain ⟨j, d, h1, h2, h3, h4⟩ := h u hu
    refine ⟨j, d, h1, h2, h3, h4.imp id fun ⟨h5, h6⟩ => ⟨h5, ?_⟩⟩
    rw [List.take_add_one]
    exact List.mem_append.2 (.inl h6)
theorem Marked.next {cs : List (List Nat)} {x y : Nat} {l : List Nat} (h : Marked cs x y l) : Marked cs (x + 1) 0 l := by
  intro u hu
  obtain ⟨j, d, h1, h2, h3, h4⟩ := h u hu
  exact ⟨j, d, h1, h2, h3, .inl (by rcases h4 with h4 | ⟨h4, _⟩ <;> omega)⟩
theorem Marked.init (cs : List (List Nat)) (N : Nat) : Marked cs 0 0 (List.replicate N 0) := by
  intro u hu
  simp only [List.getD_eq_getElem?_getD, List.getElem?_replicate] at hu
  split at hu <;> simp at hu
end Fil
