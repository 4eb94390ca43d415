/- Of BakerShifts: part 5: what the walks rest on, contracts of functions and plain lemmas; no condition but those that each states. -/
import Derived.Test.YtpajjnkmaebhcabGreatBh4
set_option linter.unusedVariables false
set_option linter.unusedSimpArgs false
section
namespace Go.Sl
open Go Go.RowKit Fil
def mineV (v : Nat) (tv : List (Value × Value)) (tabs : List Tab) : List (Value × Value) := ((tv.zip tabs).filter fun p => decide (v ∈ p.2.1)).map Prod.fst
def restV (v : Nat) (tv : List (Value × Value)) (tabs : List Tab) : List (Value × Value) := ((tv.zip tabs).filter fun p => !decide (v ∈ p.2.1)).map Prod.fst
theorem zip_filter {α β : Type} (p : β → Bool) : ∀ (tv : List α) (tabs : List β), tv.length = tabs.length → ((tv.zip tabs).filter fun q => p q.2).map Prod.snd = tabs.filter p
  | [], [], _ => rfl
  | a :: tv, t :: tabs, h => by
    have ih := zip_filter p tv tabs (by simpa using h)
    simp only [List.zip_cons_cons, List.filter_cons]
    split
    · rw [List.map_cons, ih]
    · exact ih
theorem bVz (n : Nat) : (madeCells (Value.bool false).cells (n * 1)).toList = bV (List.replicate n false) := by rw [made1 rfl]; simp [bV]
theorem mineV_length {v : Nat} {tv : List (Value × Value)} {tabs : List Tab} (h : tv.length = tabs.length) : (mineV v tv tabs).length = (mineT v tabs).length := by
  have := congrArg List.length (zip_filter (fun t : Tab => decide (v ∈ t.1)) tv tabs h)
  simpa [mineV, mineT] using this
theorem restV_length {v : Nat} {tv : List (Value × Value)} {tabs : List Tab} (h : tv.length = tabs.length) : (restV v tv tabs).length = (restT v tabs).length := by
  have := congrArg List.length (zip_filter (fun t : Tab => !decide (v ∈ t.1)) tv tabs h)
  simpa [restV, restT] using this
theorem tabRO_filter {w : World} {S : FS} {tv : List (Value × Value)} {tabs : List Tab} (p : Tab → Bool) (h : TabRO w S tv tabs) : TabRO w S (((tv.zip tabs).filter fun q => p q.2).map Prod.fst) (tabs.filter p) := by
  have hz := zip_filter p tv tabs h.len
  refine ⟨?_, ?_⟩
  · have := congrArg List.length hz
    simpa using this
  intro i hd t h1 h2
  rw [← hz] at h2
  rw [List.getElem?_map, Option.map_eq_some_iff] at h1 h2
  obtain ⟨q1, e1, rfl⟩ := h1
  obtain ⟨q2, e2, rfl⟩ := h2
  rw [e1] at e2
  obtain rfl : q1 = q2 := Option.some.inj e2
  have hm := List.mem_of_getElem? e1
  obtain ⟨hm, _⟩ := List.mem_filter.1 hm
  obtain ⟨k, hk⟩ := List.getElem?_of_mem hm
  rw [List.getElem?_zip_eq_some] at hk
  exact h.tab k _ _ hk.1 hk.2
theorem tabRO_mine {w : World} {S : FS} {v : Nat} {tv : List (Value × Value)} {tabs : List Tab} (h : TabRO w S tv tabs) : TabRO w S (mineV v tv tabs) (mineT v tabs) := tabRO_filter (fun t : Tab => decide (v ∈ t.1)) h
theorem mineV_take {v k : Nat} {tv : List (Value × Value)} {tabs : List Tab} {h : Value × Value} {t : Tab} (h1 : tv[k]? = some h) (h2 : tabs[k]? = some t) : mineV v (tv.take (k + 1)) (tabs.take (k + 1)) = mineV v (tv.take k) (tabs.take k) ++ (if v ∈ t.1 then [h] else []) := by
  have e1 := List.length_take (i := k) (l := tv)
  have e2 := List.length_take (i := k) (l := tabs)
  have l1 := (List.getElem?_eq_some_iff.1 h1).1
  have l2 := (List.getElem?_eq_some_iff.1 h2).1
  rw [List.take_add_one, List.take_add_one, h1, h2]
  simp only [mineV, Option.toList_some]
  rw [List.zip_append (by omega), List.filter_append, List.map_append]
  by_cases hv : v ∈ t.1 <;> simp [hv]
theorem restV_take {v k : Nat} {tv : List (Value × Value)} {tabs : List Tab} {h : Value × Value} {t : Tab} (h1 : tv[k]? = some h) (h2 : tabs[k]? = some t) : restV v (tv.take (k + 1)) (tabs.take (k + 1)) = restV v (tv.take k) (tabs.take k) ++ (if v ∈ t.1 then [] else [h]) := by
  have e1 := List.length_take (i := k) (l := tv)
  have e2 := List.length_take (i := k) (l := tabs)
  have l1 := (List.getElem?_eq_some_iff.1 h1).1
  have l2 := (List.getElem?_eq_some_iff.1 h2).1
  rw [List.take_add_one, List.take_add_one, h1, h2]
  simp only [restV, Option.toList_some]
  rw [List.zip_append (by omega), List.filter_append, List.map_append]
  by_cases hv : v ∈ t.1 <;> simp [hv]
theorem mineV_le {v : Nat} {tv : List (Value × Value)} {tabs : List Tab} : (mineV v tv tabs).length ≤ tv.length := by
  simp only [mineV, List.length_map]
  exact Nat.le_trans (List.length_filter_le _ _) (by rw [List.length_zip]; omega)
theorem restV_le {v : Nat} {tv : List (Value × Value)} {tabs : List Tab} : (restV v tv tabs).length ≤ tv.length := by
  simp only [restV, List.length_map]
  exact Nat.le_trans (List.length_filter_le _ _) (by rw [List.length_zip]; omega)
end Go.Sl
namespace Go.Proofs.YtpajjnkmaebhcabGreat
open Go.RowKit Go.Sl Fil
set_option maxRecDepth 100000
set_option maxHeartbeats 8000000
set_option linter.unusedVariables false
set_option linter.unusedSimpArgs false
attribute [local irreducible] Code.wp wpList bodyPost wpQuiet Exit.then Exit.inBlock Post wpAnyH wpOp
theorem eliminate_ok (bs : Nat) (vn vt vd vx : Value) (hn : List Value) (near : List (List Nat)) (v : Nat) (nr : List Nat) (tv : List (Value × Value)) (tabs : List Tab) (fd : List Value) (w : World) (S : FS)
    (hsat : sats [boxHP bs 137 [vn, vt, vd], rowHP vt 177 2 tv.length (tabV tv), rowHP vd 89 1 fd.length fd] S w)
    (hx : Shp vx nr.length) (hrx : RO w S vx (nV nr)) (hrn : ROs w S vn hn near) (ht : TabRO w S tv tabs) (hv : v < near.length) (hN : near.length ≤ 1048576) (hasc : Asc nr) (hvn : v ∉ nr) (h39 : nr.length ≤ 39)
    (hok : ∀ t ∈ tabs, TabOK t ∧ (v ∈ t.1 → ∀ u ∈ t.1, u ∈ allV nr v) ∧ t.1.length ≤ 40) (hsum : ∀ C, sumT tabs C ≤ 1000000) (hlt : tv.length ≤ 1048576) (hlf : fd.length ≤ 1048576) :
    Calls Tryz.prog 102 #[.pointer (some ⟨bs, 0, none⟩), .agg #[.int .i64 (v : Int), vx]] w (Post w S fun r L' => ∃ (vt' vd' vb vi : Value) (bi : Nat), L' = [boxHP bs 137 [vn, vt', vd'], rowHP vt' 177 2 (restV v tv tabs ++ [(vx, vb)]).length (tabV (restV v tv tabs ++ [(vx, vb)])), rowHP vd' 89 1 (fd.length + 1) (fd ++ [.func (.func 139) #[] #[.pointer (some ⟨bi, 0, none⟩)]]), rowHP vb 3 1 (2 ^ nr.length) (nV (bestL (newT near v nr tabs))), boxHP bi 57 [vi], rowHP vi 4 1 (2 ^ nr.length) (bV (inL near v nr tabs))]) := by
  have hlen := ht.len
  refine enter (vs := [_, _]) Tryz.func102 rfl Tryz.ntmps102 rfl hsat ?_
  refine know_row (v := vt) (.tail _ (.head _)) fun hvt _ => ?_
  repeat' first
    | refine k_then ?_ | refine c_seq ?_ | refine c_region ?_ | refine s_nil ?_ | refine s_move (by exact rfl) (by exact rfl) ?_ | refine s_assign (by exact rfl) (by exact rfl) ?_ | refine s_fa (by exact rfl) (by exact rfl) ?_ | refine s_ld_box (by exact rfl) (by exact rfl) (by exact .tail _ (.head _)) (by exact rfl) ?_ | refine s_len (by exact rfl) (by exact rfl) (by assumption) ?_ | refine o_box (by exact rfl) (by exact rfl) (fun b => ?_) | refine c_block ?_ | refine s_nilc (by exact rfl) (by exact rfl) ?_
  revert b; intro b3
  refine c_nil 177 2 ?_
  refine c_nil 177 2 ?_
  refine c_loop (fun x : Nat × Value × Value => x.1 ≤ tv.length) (fun x => [(0, .pointer (some ⟨bs, 0, none⟩)), (3, .pointer (some ⟨b3, 0, none⟩)), (4, x.2.1), (5, x.2.2), (20, vt), (21, .int .i64 (tv.length : Int)), (22, .int .i64 (x.1 : Int))])
    (fun x => [rowHP x.2.1 177 2 (mineV v (tv.take x.1) (tabs.take x.1)).length (tabV (mineV v (tv.take x.1) (tabs.take x.1))), rowHP x.2.2 177 2 (restV v (tv.take x.1) (tabs.take x.1)).length (tabV (restV v (tv.take x.1) (tabs.take x.1))), boxHP b3 142 [.int .i64 (v : Int), vx], boxHP bs 137 [vn, vt, vd], rowHP vt 177 2 tv.length (tabV tv), rowHP vd 89 1 fd.length fd]) (fun x => tv.length - x.1) (0, .slice none 0 0, .slice none 0 0) [0, 0, 0, 0, 0, 0] (Nat.zero_le _) (by exact rfl) ⟨rfl, rfl, rfl, rfl, rfl, rfl, rfl, trivial⟩ ?_
  rintro ⟨k, vm, vr⟩ hk
  dsimp only at hk ⊢
  by_cases hkl : k < tv.length
  · obtain ⟨t, htk⟩ : ∃ t, tabs[k]? = some t := ⟨_, List.getElem?_eq_getElem (by omega)⟩
    obtain ⟨hd, hhk⟩ : ∃ hd, tv[k]? = some hd := ⟨_, List.getElem?_eq_getElem (by omega)⟩
    obtain ⟨q1, q2, q3, q4⟩ := ht.tab k hd t hhk htk
    have hE := tabV_get hhk
    have hml : (mineV v (tv.take k) (tabs.take k)).length ≤ k := Nat.le_trans mineV_le (by rw [List.length_take]; omega)
    have hrl : (restV v (tv.take k) (tabs.take k)).length ≤ k := Nat.le_trans restV_le (by rw [List.length_take]; omega)
    repeat' first
      | refine k_then ?_ | refine c_seq ?_ | refine c_region ?_ | refine s_nil ?_ | refine s_lss (by exact rfl) (by exact rfl) (by exact rfl) ?_ | refine s_idx (by exact rfl) (by exact rfl) (by exact rfl) (by assumption) (by first | assumption | omega) ?_ | refine s_ldk_row (by exact rfl) (by exact rfl) (by exact .tail _ (.tail _ (.tail _ (.tail _ (.head _))))) (by decide) (by assumption) (by exact rfl) ?_ | refine o_alloc (by exact rfl) (fun b => ?_) | refine c_block ?_ | refine c_skip ?_ | (refine c_cond_p (by exact rfl) (fun h => ?_) (fun h => ?_) <;> try (exfalso; omega))
    refine o_stk_box (i := 0) (us := [hd.1, hd.2]) (by exact rfl) (by exact rfl) (by exact rfl) (by exact rfl) (by exact rfl) (by
      intro u hu
      simp only [List.mem_cons, List.not_mem_nil, or_false] at hu
      rcases hu with rfl | rfl
      · exact q1.one
      · exact q3.one) (by simp [Value.cells]) ?_
    repeat' first
      | refine k_then ?_ | refine c_seq ?_ | refine c_region ?_ | refine s_nil ?_ | refine s_fa (by exact rfl) (by exact rfl) ?_ | refine s_ld_box (by exact rfl) (by exact rfl) (by first | exact .head _ | exact .tail _ (.tail _ (.tail _ (.head _)))) (by exact rfl) ?_
    refine s_call (by exact rfl) (by exact rfl) (fun w h => Contains_ok hd.1 t.1 v w q1 (ro_old h q2)) ?_
    by_cases hvt1 : v ∈ t.1
    · have hm1 := mineV_take (v := v) hhk htk
      have hr1 := restV_take (v := v) hhk htk
      rw [if_pos hvt1] at hm1 hr1
      rw [decide_eq_true hvt1]
      repeat' first
        | refine k_then ?_ | refine c_region ?_ | refine s_nil ?_ | refine s_move (by exact rfl) (by exact rfl) ?_ | refine s_ldk_box (by exact rfl) (by exact rfl) (by exact .head _) (by exact rfl) (by exact rfl) ?_ | refine c_cond_t (by exact rfl) ?_
      refine o_mk [.agg #[hd.1, hd.2]] (by exact rfl) (by exact rfl) rfl ?_ ?_ (by simp) fun va hva => ?_
      · simp [Value.cells]
      · simp
      skip
      refine o_append_row (i := 2) (by exact rfl) (by exact rfl) (by exact rfl) (by exact rfl) (by exact .head _) (by exact rfl) (by
        intro u hu
        simp only [List.flatMap_cons, List.flatMap_nil, List.append_nil, Value.cells, List.mem_cons, List.not_mem_nil, or_false] at hu
        rcases hu with rfl | rfl
        · exact q1.one
        · exact q3.one) ?_ fun vo2 hvo2 => ?_
      · omega
      repeat' first
        | refine k_then ?_ | refine c_region ?_ | refine s_nil ?_ | refine s_move (by exact rfl) (by exact rfl) ?_ | refine s_assign (by exact rfl) (by exact rfl) ?_ | refine s_add (by exact rfl) (by exact rfl) (by exact rfl) (by omega) ?_ | refine k_blk ?_
      refine c_round (k + 1, vo2, vr) [2, 2, 2, 2, 2, 2] ?_ ⟨rfl, rfl, rfl, rfl, rfl, rfl, rfl, trivial⟩ (by dsimp only; omega) (by dsimp only; omega)
      dsimp only
      rw [hm1, hr1, List.append_nil, tabV_snoc, List.length_append, List.length_singleton]
      rfl
    · have hm1 := mineV_take (v := v) hhk htk
      have hr1 := restV_take (v := v) hhk htk
      rw [if_neg hvt1] at hm1 hr1
      rw [decide_eq_false hvt1]
      repeat' first
        | refine k_then ?_ | refine c_region ?_ | refine s_nil ?_ | refine s_move (by exact rfl) (by exact rfl) ?_ | refine s_ldk_box (by exact rfl) (by exact rfl) (by exact .head _) (by exact rfl) (by exact rfl) ?_ | refine c_cond_f (by exact rfl) ?_
      refine o_mk [.agg #[hd.1, hd.2]] (by exact rfl) (by exact rfl) rfl ?_ ?_ (by simp) fun va hva => ?_
      · simp [Value.cells]
      · simp
      skip
      refine o_append_row (i := 3) (by exact rfl) (by exact rfl) (by exact rfl) (by exact rfl) (by exact .head _) (by exact rfl) (by
        intro u hu
        simp only [List.flatMap_cons, List.flatMap_nil, List.append_nil, Value.cells, List.mem_cons, List.not_mem_nil, or_false] at hu
        rcases hu with rfl | rfl
        · exact q1.one
        · exact q3.one) ?_ fun vo2 hvo2 => ?_
      · omega
      repeat' first
        | refine k_then ?_ | refine c_region ?_ | refine s_nil ?_ | refine s_move (by exact rfl) (by exact rfl) ?_ | refine s_assign (by exact rfl) (by exact rfl) ?_ | refine s_add (by exact rfl) (by exact rfl) (by exact rfl) (by omega) ?_ | refine k_blk ?_
      refine c_round (k + 1, vm, vo2) [2, 2, 2, 2, 2, 2] ?_ ⟨rfl, rfl, rfl, rfl, rfl, rfl, rfl, trivial⟩ (by dsimp only; omega) (by dsimp only; omega)
      dsimp only
      rw [hm1, hr1, List.append_nil, tabV_snoc, List.length_append, List.length_singleton]
      rfl
  · have hkk : k = tv.length := by omega
    rw [List.take_of_length_le (l := tv) (by omega), List.take_of_length_le (l := tabs) (by omega)]
    have htm := tabRO_mine (v := v) ht
    have hml := mineV_length (v := v) hlen
    have hrl := restV_length (v := v) hlen
    have hml2 : (mineV v tv tabs).length ≤ tv.length := mineV_le
    have hrl2 : (restV v tv tabs).length ≤ tv.length := restV_le
    refine know_row (v := vm) (.head _) fun hvm _ => ?_
    repeat' first
      | refine k_then ?_ | refine c_seq ?_ | refine c_region ?_ | refine s_nil ?_ | refine s_lss (by exact rfl) (by exact rfl) (by exact rfl) ?_ | refine c_exit ?_ | refine k_then_exit ?_ | refine k_blk_eq ?_ | (refine c_cond_p (by exact rfl) (fun h => ?_) (fun h => ?_) <;> try (exfalso; omega))
    clear h hkk hkl hk
    have hlv : ((nr ++ [v]).length : Nat) = nr.length + 1 := by simp
    refine p_begin [(0, true), (1, true), (3, true), (4, true), .rd 2 5, (6, false), (7, false), (8, false), (9, true)] [boxHP b3 142 [.int .i64 (v : Int), vx]] (by kernel_rfl) ?_
    repeat' first
      | (refine p_at (by exact rfl) ?_
         first
          | refine t_fa (by exact rfl) (by exact rfl) (by exact fun _ h => h.pick [2] (by exact rfl)) ?_ | refine t_ld_box (by exact rfl) (by exact rfl) (by exact .head _) (by exact rfl) (by exact fun _ h => h.pick [2] (by exact rfl)) ?_)
    refine p_join (X := Value × Value) [(6, false), (7, false), (8, false), (9, true)] (fun x => [(42, x.1), (45, x.2), (0, .pointer (some ⟨bs, 0, none⟩)), (3, .pointer (some ⟨b3, 0, none⟩)), (4, vm), (5, vr)]) (fun x => [rowHP x.1 3 1 nr.length (nV nr), rowHP x.2 3 1 1 [.int .i64 (v : Int)], boxHP b3 142 [.int .i64 (v : Int), vx], rowHP vm 177 2 (mineV v tv tabs).length (tabV (mineV v tv tabs)), rowHP vr 177 2 (restV v tv tabs).length (tabV (restV v tv tabs)), boxHP bs 137 [vn, vt, vd], rowHP vt 177 2 tv.length (tabV tv), rowHP vd 89 1 fd.length fd]) (fun hk => ?_) ?_
    · refine p_rd ?_ ?_
      · refine p_call' (by exact rfl) (by exact rfl) (by exact rfl) (fun w h => Clone_ok vx nr w hx (ro_old h hrx) (by omega)) ?_
        rintro vc _ rfl
        refine ⟨fun _ h => h.pick [3] (by exact rfl), ?_⟩
        refine p_mk (sz := 1) [.int .i64 (v : Int)] (by exact rfl) (by exact rfl) (by exact rfl) rfl (by simp [Value.cells]) (by simp) (by simp) (fun _ _ h => h.pick [4] (by exact rfl)) fun va hva => ?_
        exact pj_end hk (vc, va) [1, 0, 2, 0, 0, 0, 0, 0] (by exact rfl) ⟨rfl, rfl, rfl, rfl, rfl, rfl, trivial⟩
      · refine p_mk (sz := 1) [.int .i64 (v : Int)] (by exact rfl) (by exact rfl) (by exact rfl) rfl (by simp [Value.cells]) (by simp) (by simp) (fun _ _ h => h.pick [3] (by exact rfl)) fun va hva => ?_
        refine p_call' (by exact rfl) (by exact rfl) (by exact rfl) (fun w h => Clone_ok vx nr w hx (ro_old h hrx) (by omega)) ?_
        rintro vc _ rfl
        refine ⟨fun _ h => h.pick [4] (by exact rfl), ?_⟩
        exact pj_end hk (vc, va) [0, 0, 2, 0, 0, 0, 0, 0] (by exact rfl) ⟨rfl, rfl, rfl, rfl, rfl, rfl, trivial⟩
    rintro ⟨vc, va⟩
    dsimp only
    refine p_append_row (bytes := 8) (j := 0) (by exact rfl) (by exact rfl) (by exact rfl) (by exact rfl) (by exact rfl) (.tail _ (.head _)) (by exact rfl) (by simp [Value.oneCell']) (by omega) (fun _ _ h => h.pick [2] (by exact rfl)) (fun v6 hv6 => ?_)
    refine p_call' (by exact rfl) (by exact rfl) (by exact rfl) (fun w h => Values_ok v6 w hv6.one) ?_
    rintro _ _ ⟨bq, rfl, rfl⟩
    refine ⟨fun _ h => h.pick [3] (by exact rfl), ?_⟩
    rw [← hlv] at hv6
    refine p_call' (vs := [_]) (by exact rfl) (by exact rfl) (by exact rfl) (fun w h => Sorted_ok _ [.pointer (some ⟨bq, 0, none⟩)] (nr ++ [v]) w (by omega) fun w' S' Sf hm hS => values1_ok bq v6 (nr ++ [v]) w' S' ((rb_own h (.head _)).fwd hm hS) hv6 (RO.fwd (ro_own h (ys := nV (nr ++ [v])) (e := 3) (sz := 1) (m := nr.length + 1) (by rw [show nV (nr ++ [v]) = nV nr ++ [.int .i64 (v : Int)] by simp [nV]]; exact .tail _ (.head _))) hm hS)) ?_
    rintro vA _ rfl
    refine ⟨fun _ h => h.pick [4] (by exact rfl), ?_⟩
    repeat' first
      | refine p_nil ?_
      | (refine p_at (by exact rfl) ?_
         first
          | refine t_assign (by exact rfl) (by exact rfl) (by exact fun _ h => h.pick [4] (by exact rfl)) ?_)
    refine c_pick [0, 3, 3, 3, 3, 3, 3] (by exact rfl) ?_
    have hal := allV_length nr v
    rw [allV_sort hasc, hlv, ← hal]
    have hvA := allV_asc hasc hvn
    have hpB := posB_all hasc hvn
    have hple := posL_le nr v
    refine know_row (v := vA) (.head _) fun hsA _ => ?_
    repeat' first
      | refine k_then ?_ | refine c_seq ?_ | refine c_region ?_ | refine s_move (by exact rfl) (by exact rfl) ?_ | refine s_fa (by exact rfl) (by exact rfl) ?_ | refine s_ld_box (by exact rfl) (by exact rfl) (by exact .tail _ (.head _)) (by exact rfl) ?_
    refine s_call (by exact rfl) (by exact rfl) (fun w h => BinarySearch_ok vA (allV nr v) v w hsA (ro_own h (.head _)) hvA (by omega)) ?_
    rw [hpB]
    generalize hp : posL nr v = p at *
    repeat' first
      | refine k_then ?_ | refine c_seq ?_ | refine s_nil ?_ | refine s_move (by exact rfl) (by exact rfl) ?_ | refine s_assign (by exact rfl) (by exact rfl) ?_ | refine s_extract (by exact rfl) (by exact rfl) (by exact rfl) ?_
    have hM : 2 ^ nr.length ≤ 549755813888 := Nat.pow_le_pow_right (n := 2) (by decide) h39
    generalize hMM : 2 ^ nr.length = M at *
    refine p_begin [(0, true), (1, true), (2, true), (3, true), (4, true), (5, true), (6, true), .tree (.two 7 (.two 8 (.one 9 .leaf) 9 (.one 8 .leaf)) 9 (.one 7 (.one 8 .leaf))), (10, false)] [boxHP b3 142 [.int .i64 (v : Int), vx]] (by kernel_rfl) ?_
    repeat' first
      | (refine p_at (by exact rfl) ?_
         first
          | refine t_fa (by exact rfl) (by exact rfl) (by exact fun _ h => h.pick [1] (by exact rfl)) ?_ | refine t_ld_box (by exact rfl) (by exact rfl) (by exact .head _) (by exact rfl) (by exact fun _ h => h.pick [1] (by exact rfl)) ?_ | refine t_len (by exact rfl) (by exact rfl) (by assumption) (by exact fun _ h => h.pick [1] (by exact rfl)) ?_)
    refine p_at (by exact rfl) ?_
    refine t_conv (by exact rfl) (by exact rfl) (by refine ⟨?_, ?_⟩ <;> simp [IntKind.min, IntKind.max, IntKind.signed, IntKind.bits] <;> omega) (by exact fun _ h => h.pick [1] (by exact rfl)) ?_
    refine p_at (by exact rfl) ?_
    refine t_shl (M : Int) (by exact rfl) (by exact rfl) (by exact rfl) ⟨by omega, by omega⟩ (by rw [show (nr.length : Int).toNat = nr.length by omega, Int.one_mul, ← hMM]; norm_cast) ⟨by omega, by omega⟩ (by exact fun _ h => h.pick [1] (by exact rfl)) ?_
    refine p_join (X := Value × Nat) [(10, false)] (fun x => [(64, .agg #[vx, x.1]), (11, .pointer (some ⟨x.2, 0, none⟩)), (0, .pointer (some ⟨bs, 0, none⟩)), (3, .pointer (some ⟨b3, 0, none⟩)), (4, vm), (5, vr), (8, vA), (9, .int .i64 (p : Int))]) (fun x => [rowHP x.1 3 1 M (nV (List.replicate M 0)), boxHP x.2 177 [.slice none 0 0, .slice none 0 0], rowHP vA 3 1 (allV nr v).length (nV (allV nr v)), boxHP b3 142 [.int .i64 (v : Int), vx], rowHP vm 177 2 (mineV v tv tabs).length (tabV (mineV v tv tabs)), rowHP vr 177 2 (restV v tv tabs).length (tabV (restV v tv tabs)), boxHP bs 137 [vn, vt, vd], rowHP vt 177 2 tv.length (tabV tv), rowHP vd 89 1 fd.length fd]) (fun hk => ?_) ?_
    · have hz : (madeCells (Value.int .i64 0).cells ((M : Int).toNat * 1)).toList = nV (List.replicate M 0) := by rw [made1 rfl]; simp [nV]
      have hcs : ∀ vb : Value, vb.oneCell' = true → ∀ q ∈ [(0, vx, [vx]), (1, vb, [vb])], (q : Nat × Value × List Value).2.1.cells.toList = q.2.2 := by
        intro vb hvb q hq
        simp only [List.mem_cons, List.not_mem_nil, or_false] at hq
        rcases hq with rfl | rfl
        · exact one_cells hx.one
        · exact one_cells hvb
      refine p_two ?_ ?_
      · refine p_make (bytes := 8) (by exact rfl) (by exact rfl) (by exact rfl) (by exact rfl) (by omega) (by omega) (fun _ _ h => h.pick [2] (by exact rfl)) fun vb hvb => ?_
        rw [hz]
        refine p_two ?_ ?_
        · refine p_build (cs := [vx, vb]) [(0, vx, [vx]), (1, vb, [vb])] (by exact rfl) (by exact rfl) (by exact rfl) (hcs vb hvb.one) ?_ (fun _ h => h.pick [2] (by exact rfl)) ?_
          · exact rfl
          refine p_one ?_
          refine p_alloc (by exact rfl) (by exact rfl) (fun _ _ h => h.pick [3] (by exact rfl)) fun b11 => ?_
          refine p_leaf ?_
          exact pj_end hk (vb, b11) [1, 0, 0, 0, 0, 0, 0, 0, 0] (by exact rfl) ⟨rfl, rfl, rfl, rfl, rfl, rfl, rfl, rfl, trivial⟩
        · refine p_alloc (by exact rfl) (by exact rfl) (fun _ _ h => h.pick [3] (by exact rfl)) fun b11 => ?_
          refine p_one ?_
          refine p_build (cs := [vx, vb]) [(0, vx, [vx]), (1, vb, [vb])] (by exact rfl) (by exact rfl) (by exact rfl) (hcs vb hvb.one) ?_ (fun _ h => h.pick [3] (by exact rfl)) ?_
          · exact rfl
          refine p_leaf ?_
          exact pj_end hk (vb, b11) [1, 0, 0, 0, 0, 0, 0, 0, 0] (by exact rfl) ⟨rfl, rfl, rfl, rfl, rfl, rfl, rfl, rfl, trivial⟩
      · refine p_alloc (by exact rfl) (by exact rfl) (fun _ _ h => h.pick [2] (by exact rfl)) fun b11 => ?_
        refine p_one ?_
        refine p_make (bytes := 8) (by exact rfl) (by exact rfl) (by exact rfl) (by exact rfl) (by omega) (by omega) (fun _ _ h => h.pick [3] (by exact rfl)) fun vb hvb => ?_
        rw [hz]
        refine p_one ?_
        refine p_build (cs := [vx, vb]) [(0, vx, [vx]), (1, vb, [vb])] (by exact rfl) (by exact rfl) (by exact rfl) (hcs vb hvb.one) ?_ (fun _ h => h.pick [3] (by exact rfl)) ?_
        · exact rfl
        refine p_leaf ?_
        exact pj_end hk (vb, b11) [0, 0, 0, 0, 0, 0, 0, 0, 0] (by exact rfl) ⟨rfl, rfl, rfl, rfl, rfl, rfl, rfl, rfl, trivial⟩
    rintro ⟨vb, b11⟩
    dsimp only
    refine know_rowP (v := vb) (.head _) fun hvb _ => ?_
    refine p_stk_box (j := 1) (us := [vx, vb]) (by exact rfl) (by exact rfl) (by exact rfl) (by exact rfl) (by exact rfl) (by exact rfl) (by
      intro u hu
      simp only [List.mem_cons, List.not_mem_nil, or_false] at hu
      rcases hu with rfl | rfl
      · exact hx.one
      · exact hvb.one) (by simp) (fun _ h => h.pick [3] (by exact rfl)) ?_
    repeat' first
      | refine p_nil ?_
    repeat' first
      | refine k_then ?_ | refine c_seq ?_ | refine c_region ?_ | refine s_fa (by exact rfl) (by exact rfl) ?_ | refine s_ld_box (by exact rfl) (by exact rfl) (by exact .tail _ (.head _)) (by exact rfl) ?_ | refine s_len (by exact rfl) (by exact rfl) (by assumption) ?_
    refine o_make (by exact rfl) (by exact rfl) (by exact rfl) (by omega) (by omega) fun vi hvi => ?_
    rw [bVz]
    repeat' first
      | refine o_alloc (by exact rfl) (fun b => ?_)
    revert b; intro b12
    refine o_st_box (i := 0) (by exact rfl) (by exact rfl) (by exact rfl) hvi.one (by simp [Value.cells]) ?_
    repeat' first
      | refine k_then ?_ | refine c_seq ?_ | refine c_region ?_ | refine s_nil ?_ | refine s_move (by exact rfl) (by exact rfl) ?_ | refine s_fa (by exact rfl) (by exact rfl) ?_ | refine s_ld_box (by exact rfl) (by exact rfl) (by exact .tail _ (.tail _ (.tail _ (.head _)))) (by exact rfl) ?_ | refine s_len (by exact rfl) (by exact rfl) (by assumption) ?_ | refine c_block ?_
    have hvi : Shp vi M := hvi
    have hof : ∀ t ∈ mineT v tabs, TabOK t ∧ (∀ u ∈ t.1, u ∈ allV nr v) ∧ t.1.length ≤ 40 := fun t ht => by
      obtain ⟨h1, h2⟩ := List.mem_filter.1 ht
      obtain ⟨o1, o2, o3⟩ := hok t h1
      exact ⟨o1, o2 (by simpa using h2), o3⟩
    have hsm : ∀ C, sumT (mineT v tabs) C ≤ 1000000 := fun C => Nat.le_trans (sumT_filter _ _ _) (hsum C)
    have hcnt : ∀ (C : Nat → Bool) (w1 : World) (L1 : List HP), St w S L1 w1 → rowHP vA 3 1 (allV nr v).length (nV (allV nr v)) ∈ L1 → rowHP vm 177 2 (mineV v tv tabs).length (tabV (mineV v tv tabs)) ∈ L1 → Calls Tryz.prog 137 #[.int .i64 (encL (allV nr v) C : Int), vA, vm] w1 (Post w1 No (Just (.int .i64 (sumT (mineT v tabs) C : Int)))) := fun C w1 L1 h h1 h2 =>
      count_ok vA vm (allV nr v) (mineV v tv tabs) (mineT v tabs) C w1 hsA (ro_own h h1) hvA (by omega) hvm (ro_own h h2) (tabRO_old h htm) hof (by have := hsm C; omega)
    refine c_loop (fun c : Nat => c ≤ M) (fun c => [(0, .pointer (some ⟨bs, 0, none⟩)), (3, .pointer (some ⟨b3, 0, none⟩)), (4, vm), (5, vr), (8, vA), (9, .int .i64 (p : Int)), (11, .pointer (some ⟨b11, 0, none⟩)), (12, .pointer (some ⟨b12, 0, none⟩)), (71, .int .i64 (M : Int)), (72, .int .i64 (c : Int))])
      (fun c => [boxHP b12 57 [vi], rowHP vi 4 1 M (bV (upTo M c (fun j => inV near v nr tabs (decL nr j)) false)), rowHP vb 3 1 M (nV (upTo M c (fun j => newV near v nr tabs (decL nr j)) 0)), boxHP b11 177 [vx, vb], rowHP vA 3 1 (allV nr v).length (nV (allV nr v)), boxHP b3 142 [.int .i64 (v : Int), vx], rowHP vm 177 2 (mineV v tv tabs).length (tabV (mineV v tv tabs)), rowHP vr 177 2 (restV v tv tabs).length (tabV (restV v tv tabs)), boxHP bs 137 [vn, vt, vd], rowHP vt 177 2 tv.length (tabV tv), rowHP vd 89 1 fd.length fd]) (fun c => M - c) 0 [0, 0, 0, 0, 0, 0, 0, 0, 0, 0, 0] (Nat.zero_le _) (by rw [upTo_zero, upTo_zero]; exact rfl) ⟨rfl, rfl, rfl, rfl, rfl, rfl, rfl, rfl, rfl, rfl, trivial⟩ ?_
    intro c hc
    by_cases hcl : c < M
    · have hDv : decL nr c v = false := by rw [decL, decide_eq_false hvn, Bool.false_and]
      have hcD : encL nr (decL nr c) = c := encL_dec hasc.nodup (by rw [hMM]; exact hcl)
      have hsp := encL_split nr p (decL nr c) hple
      have hlo := encL_lt (nr.take p) (decL nr c)
      rw [List.length_take, Nat.min_eq_left hple] at hlo
      have ha0 := encL_all0 (nr := nr) hDv
      have ha1 := encL_all1 (nr := nr) (C := decL nr c) hvn
      rw [hp] at ha0 ha1
      have hf0 : (fun j => newV near v nr tabs (decL nr j)) c = if inV near v nr tabs (decL nr c) then sumT (mineT v tabs) (S1 v (decL nr c)) + 1 else sumT (mineT v tabs) (decL nr c) := rfl
      have hg0 : (fun j => inV near v nr tabs (decL nr j)) c = (okV near v nr (decL nr c) && decide (sumT (mineT v tabs) (decL nr c) < sumT (mineT v tabs) (S1 v (decL nr c)) + 1)) := rfl
      generalize (fun j => newV near v nr tabs (decL nr j)) = f at *
      generalize (fun j => inV near v nr tabs (decL nr j)) = g at *
      have hD : inV near v nr tabs (decL nr c) = g c := hg0.symm
      rw [hD] at hf0
      generalize hDD : decL nr c = D at *
      rw [hcD] at hsp
      have hp2 : 2 ^ p ≤ M := by rw [← hMM]; exact Nat.pow_le_pow_right (by decide) hple
      generalize encL (nr.take p) D = e0 at *
      generalize encL (nr.drop p) D = e1 at *
      repeat' first
        | refine k_then ?_ | refine c_seq ?_ | refine c_region ?_ | refine s_nil ?_ | refine s_move (by exact rfl) (by exact rfl) ?_ | refine s_assign (by exact rfl) (by exact rfl) ?_ | refine s_lss (by exact rfl) (by exact rfl) (by exact rfl) ?_ | refine c_block ?_ | refine c_skip ?_ | (refine c_cond_p (by exact rfl) (fun h => ?_) (fun h => ?_) <;> try (exfalso; omega)) | refine s_conv (by exact rfl) (by exact rfl) (by refine ⟨?_, ?_⟩ <;> simp [IntKind.min, IntKind.max, IntKind.signed, IntKind.bits] <;> omega) ?_
      refine s_shl ((2 ^ p : Nat) : Int) (by exact rfl) (by exact rfl) (by exact rfl) ⟨by omega, by omega⟩ (by rw [show (p : Int).toNat = p by omega, Int.one_mul]; norm_cast) ⟨by omega, by omega⟩ ?_
      repeat' first
        | refine s_sub (by exact rfl) (by exact rfl) (by exact rfl) (by omega) ?_
      refine s_and (e0 : Int) (by exact rfl) (by exact rfl) (by exact rfl) ⟨by omega, by omega⟩ ⟨by omega, by omega⟩ (by
        rw [show (c : Int).toNat = c by omega, show (((2 ^ p : Nat) : Int) - 1).toNat = 2 ^ p - 1 by omega, Nat.and_two_pow_sub_one_eq_mod, hsp, Nat.add_mul_mod_self_left, Nat.mod_eq_of_lt hlo]) ?_
      have hle0 : e0 ≤ c := by rw [hsp]; exact Nat.le_add_right _ _
      repeat' first
        | refine k_then ?_ | refine c_seq ?_ | refine c_region ?_ | refine s_nil ?_ | refine s_move (by exact rfl) (by exact rfl) ?_ | refine s_assign (by exact rfl) (by exact rfl) ?_ | refine s_sub (by exact rfl) (by exact rfl) (by exact rfl) (by omega) ?_
      have hce : c - e0 = 2 ^ p * e1 := by rw [hsp, Nat.add_sub_cancel_left]
      have hout : 2 ^ p * (2 * e1) = 2 * (c - e0) := by rw [hce, Nat.mul_left_comm]
      have hout1 : 2 ^ p * (1 + 2 * e1) = 2 ^ p + 2 * (c - e0) := by rw [Nat.mul_add, Nat.mul_one, hout]
      refine s_shl ((2 ^ p * (2 * e1) : Nat) : Int) (by exact rfl) (by exact rfl) (by exact rfl) ⟨by omega, by omega⟩ (by rw [hout, show ((1 : Int).toNat) = 1 from rfl]; omega) ⟨by omega, by omega⟩ ?_
      skip
      refine s_or ((encL (allV nr v) D : Nat) : Int) (by exact rfl) (by exact rfl) (by exact rfl) ⟨by omega, by omega⟩ ⟨by omega, by omega⟩ (by
        rw [show ((e0 : Nat) : Int).toNat = e0 by omega, show ((2 ^ p * (2 * e1) : Nat) : Int).toNat = 2 ^ p * (2 * e1) by omega, or_low hlo, ha0]) ?_
      repeat' first
        | refine k_then ?_ | refine c_seq ?_ | refine s_nil ?_ | refine s_assign (by exact rfl) (by exact rfl) ?_
      have hs0 := hsm D
      have hs1 := hsm (S1 v D)
      have hcn0 := hcnt D
      have hcn1 := hcnt (S1 v D)
      generalize sumT (mineT v tabs) D = a0 at *
      generalize sumT (mineT v tabs) (S1 v D) = a1 at *
      refine p_begin [(0, true), (1, true), (2, true), (3, true), (4, true), (5, true), (6, false), (7, true), (8, false)] [boxHP b11 177 [vx, vb]] (by kernel_rfl) ?_
      repeat' first
        | (refine p_at (by exact rfl) ?_
           first
            | refine t_move (by exact rfl) (by exact rfl) (by exact fun _ h => h.pick [3] (by exact rfl)) ?_ | refine t_fa (by exact rfl) (by exact rfl) (by exact fun _ h => h.pick [3] (by exact rfl)) ?_ | refine t_ld_box (by exact rfl) (by exact rfl) (by exact .head _) (by exact rfl) (by exact fun _ h => h.pick [3] (by exact rfl)) ?_)
      refine p_call (gd := none) (by exact rfl) (by exact rfl) (by exact rfl) (fun w h => hcn0 w _ h (.tail _ (.tail _ (.tail _ (.tail _ (.head _))))) (.tail _ (.tail _ (.tail _ (.tail _ (.tail _ (.tail _ (.head _)))))))) (by exact fun _ h => h.pick [3] (by exact rfl)) ?_
      repeat' first
        | (refine p_at (by exact rfl) ?_
           first
            | refine t_idx (by exact rfl) (by exact rfl) (by exact rfl) (by assumption) (by first | assumption | omega) (by exact fun _ h => h.pick [3] (by exact rfl)) ?_)
      refine p_st_row (j := 2) (by exact rfl) (by exact rfl) (by exact rfl) (by exact rfl) rfl (by omega) (fun _ h => h.pick [3] (by exact rfl)) ?_
      repeat' first
        | refine p_nil ?_
      rw [nV_set]
      repeat' first
        | refine k_then ?_ | refine c_seq ?_ | refine c_region ?_ | refine s_move (by exact rfl) (by exact rfl) ?_ | refine s_fa (by exact rfl) (by exact rfl) ?_ | refine s_ld_box (by exact rfl) (by exact rfl) (by exact .tail _ (.tail _ (.tail _ (.tail _ (.tail _ (.head _)))))) (by exact rfl) ?_
      refine s_call (vs := [_, _, _, _]) (by exact rfl) (by exact rfl) (fun w h => hcD ▸ allowed_ok bs vn vt vd vx hn near nr D v w (rb_own h (.tail _ (.tail _ (.tail _ (.tail _ (.tail _ (.tail _ (.tail _ (.tail _ (.head _)))))))))) (ros_old h hrn) hv hN hx (ro_old h hrx) (by omega)) ?_
      rw [show decide (∀ u ∈ nr, D u = true → u ∉ near.getD v []) = okV near v nr D from rfl]
      have hld : (nV ((upTo M c f 0).set c a0))[c * 1]? = some (.int .i64 (a0 : Int)) := by simp [nV, upTo_length, hcl]
      have hf1 : a0 = f c → (upTo M c f 0).set c a0 = upTo M (c + 1) f 0 := fun e => by rw [e]; exact upTo_set hcl f 0
      cases hoV : okV near v nr D
      · rw [hoV, Bool.false_and] at hg0
        rw [hg0, if_neg (by simp)] at hf0
        repeat' first
          | refine k_then ?_ | refine c_region ?_ | refine s_nil ?_ | refine s_move (by exact rfl) (by exact rfl) ?_ | refine s_add (by exact rfl) (by exact rfl) (by exact rfl) (by omega) ?_ | refine s_not (by exact rfl) (by exact rfl) ?_ | refine c_exit ?_ | refine k_then_exit ?_ | refine k_blk_eq ?_ | refine c_cond_t (by exact rfl) ?_
        refine c_round (c + 1) [0, 0, 0, 0, 0, 0, 0, 0, 0, 0, 0] (by rw [upTo_same g false hg0, ← hf1 hf0.symm]; exact rfl) ⟨rfl, rfl, rfl, rfl, rfl, rfl, rfl, rfl, rfl, rfl, trivial⟩ (by omega) (by omega)
      · rw [hoV, Bool.true_and] at hg0
        repeat' first
          | refine k_then ?_ | refine c_seq ?_ | refine c_region ?_ | refine s_nil ?_ | refine s_move (by exact rfl) (by exact rfl) ?_ | refine s_not (by exact rfl) (by exact rfl) ?_ | refine c_skip ?_ | refine c_cond_f (by exact rfl) ?_ | refine s_conv (by exact rfl) (by exact rfl) (by refine ⟨?_, ?_⟩ <;> simp [IntKind.min, IntKind.max, IntKind.signed, IntKind.bits] <;> omega) ?_
        refine s_shl ((2 ^ p : Nat) : Int) (by exact rfl) (by exact rfl) (by exact rfl) ⟨by omega, by omega⟩ (by rw [show (p : Int).toNat = p by omega, Int.one_mul]; norm_cast) ⟨by omega, by omega⟩ ?_
        skip
        refine s_or ((encL (allV nr v) (S1 v D) : Nat) : Int) (by exact rfl) (by exact rfl) (by exact rfl) ⟨by omega, by omega⟩ ⟨by omega, by omega⟩ (by
          rw [show ((encL (allV nr v) D : Nat) : Int).toNat = encL (allV nr v) D by omega, show ((2 ^ p : Nat) : Int).toNat = 2 ^ p by omega, ha0, ha1, or_bit hlo]) ?_
        repeat' first
          | refine s_move (by exact rfl) (by exact rfl) ?_
        refine s_call (by exact rfl) (by exact rfl) (fun w h => hcn1 w _ h (.tail _ (.tail _ (.tail _ (.tail _ (.head _))))) (.tail _ (.tail _ (.tail _ (.tail _ (.tail _ (.tail _ (.head _)))))))) ?_
        repeat' first
          | refine k_then ?_ | refine c_seq ?_ | refine c_region ?_ | refine s_nil ?_ | refine s_move (by exact rfl) (by exact rfl) ?_ | refine s_assign (by exact rfl) (by exact rfl) ?_ | refine s_geq (by exact rfl) (by exact rfl) (by exact rfl) ?_ | refine s_add (by exact rfl) (by exact rfl) (by exact rfl) (by omega) ?_ | refine s_pick_t (by exact rfl) (by exact rfl) (by exact rfl) ?_ | refine c_skip ?_ | refine k_blk ?_ | (refine c_cond_p (by exact rfl) (fun h => ?_) (fun h => ?_) <;> try (exfalso; omega)) | (refine g_case (by exact rfl) (by exact rfl) (fun h => ?_) (fun h => ?_) <;> try (exfalso; omega)) | refine w_move (by exact rfl) (by exact rfl) (by exact rfl) (by exact rfl) ?_ | refine w_fa (by exact rfl) (by exact rfl) (by exact rfl) (by exact rfl) ?_ | refine w_ld_box (by exact rfl) (by exact rfl) (by exact rfl) (by exact rfl) (by exact .tail _ (.tail _ (.tail _ (.head _)))) (by exact rfl) ?_ | refine w_gtr (by exact rfl) (by exact rfl) (by exact rfl) (by exact rfl) (by exact rfl) ?_ | refine w_add (by exact rfl) (by exact rfl) (by exact rfl) (by exact rfl) (by exact rfl) (by omega) ?_ | refine w_idx (by exact rfl) (by exact rfl) (by exact rfl) (by exact rfl) (by exact rfl) (by assumption) (by first | assumption | omega) ?_ | refine w_ld_row (by exact rfl) (by exact rfl) (by exact rfl) (by exact rfl) (by exact .tail _ (.tail _ (.head _))) (by assumption) ?_
        · rw [decide_eq_true (by omega)] at hg0
          rw [hg0, if_pos rfl] at hf0
          have hu1 := upTo_set hcl g false
          rw [hg0] at hu1
          have hu2 : (upTo M c f 0).set c (a1 + 1) = upTo M (c + 1) f 0 := by rw [← hf0]; exact upTo_set hcl f 0
          refine c_pick [1, 1, 0, 0, 0, 0, 0, 0, 0, 0, 0] (by exact rfl) ?_
          refine p_beginB [(0, true), (1, true), (2, true), (3, true), (4, true), (5, true), (6, true), (7, true), (8, false), (9, true), (10, false)] (by kernel_rfl) ?_
          repeat' first
            | (refine p_at (by exact rfl) ?_
               first
                | refine t_move (by exact rfl) (by exact rfl) (by exact fun _ h => h.tl.tl) ?_ | refine t_fa (by exact rfl) (by exact rfl) (by exact fun _ h => h.tl.tl) ?_ | refine t_ld_box (by exact rfl) (by exact rfl) (by first | exact .head _ | exact .tail _ (.head _)) (by exact rfl) (by exact fun _ h => h.tl.tl) ?_ | refine t_add (by exact rfl) (by exact rfl) (by exact rfl) (by omega) (by exact fun _ h => h.tl.tl) ?_ | refine t_idx (by exact rfl) (by exact rfl) (by exact rfl) (by assumption) (by first | assumption | omega) (by exact fun _ h => h.tl.tl) ?_)
          refine p_st_row (j := 1) (by exact rfl) (by exact rfl) (by exact rfl) (by exact rfl) rfl (by omega) (fun _ h => h.tl.tl) ?_
          rw [show (a1 : Int) + 1 = ((a1 + 1 : Nat) : Int) by omega, nV_set, List.set_set, hu2]
          repeat' first
            | (refine p_at (by exact rfl) ?_
               first
                | refine t_idx (by exact rfl) (by exact rfl) (by exact rfl) (by assumption) (by first | assumption | omega) (by exact fun _ h => h.tl.tl) ?_)
          refine p_st_row (j := 0) (by exact rfl) (by exact rfl) (by exact rfl) (by exact rfl) rfl (by omega) (fun _ h => h.tl.tl) ?_
          rw [bV_set, hu1]
          repeat' first
            | refine p_nil ?_
          repeat' first
            | refine k_then ?_ | refine c_region ?_ | refine s_nil ?_ | refine s_move (by exact rfl) (by exact rfl) ?_ | refine s_add (by exact rfl) (by exact rfl) (by exact rfl) (by omega) ?_ | refine k_blk ?_
          refine c_round (c + 1) [2, 0, 0, 0, 0, 0, 0, 0, 0, 0, 0] (by exact rfl) ⟨rfl, rfl, rfl, rfl, rfl, rfl, rfl, rfl, rfl, rfl, trivial⟩ (by omega) (by omega)
        · rw [decide_eq_false (by omega)] at hg0
          rw [hg0, if_neg (by simp)] at hf0
          skip
          refine c_round (c + 1) [0, 0, 0, 0, 0, 0, 0, 0, 0, 0, 0] (by rw [upTo_same g false hg0, ← hf1 hf0.symm]; exact rfl) ⟨rfl, rfl, rfl, rfl, rfl, rfl, rfl, rfl, rfl, rfl, trivial⟩ (by omega) (by omega)
    · have hcM : c = M := by omega
      rw [hcM, upTo_all, upTo_all]
      refine c_pick [8, 7, 8, 3, 2, 0, 0] (by exact rfl) ?_
      repeat' first
        | refine k_then ?_ | refine c_seq ?_ | refine c_region ?_ | refine s_nil ?_ | refine s_move (by exact rfl) (by exact rfl) ?_ | refine s_lss (by exact rfl) (by exact rfl) (by exact rfl) ?_ | refine s_ldk_box (by exact rfl) (by exact rfl) (by exact .tail _ (.tail _ (.tail _ (.head _)))) (by exact rfl) (by exact rfl) ?_ | refine c_exit ?_ | refine k_then_exit ?_ | refine k_blk_eq ?_ | (refine c_cond_p (by exact rfl) (fun h => ?_) (fun h => ?_) <;> try (exfalso; omega))
      refine o_mk [.agg #[vx, vb]] (by exact rfl) (by exact rfl) rfl ?_ ?_ (by simp) fun v1 hv1 => ?_
      · simp [Value.cells]
      · simp
      skip
      refine o_append_row (i := 2) (by exact rfl) (by exact rfl) (by exact rfl) (by exact rfl) (by exact .head _) (by exact rfl) (by
        intro u hu
        simp only [List.flatMap_cons, List.flatMap_nil, List.append_nil, Value.cells, List.mem_cons, List.not_mem_nil, or_false] at hu
        rcases hu with rfl | rfl
        · exact hx.one
        · exact hvb.one) (by omega) fun vt2 hvt2 => ?_
      repeat' first
        | refine s_fa (by exact rfl) (by exact rfl) ?_ | refine s_nilc (by exact rfl) (by exact rfl) ?_
      refine o_st_box (i := 1) (by exact rfl) (by exact rfl) (by exact rfl) hvt2.one (by simp) ?_
      repeat' first
        | refine k_then ?_ | refine c_region ?_ | refine s_nil ?_ | refine s_move (by exact rfl) (by exact rfl) ?_ | refine s_fa (by exact rfl) (by exact rfl) ?_ | refine s_ld_box (by exact rfl) (by exact rfl) (by exact .tail _ (.head _)) (by exact rfl) ?_ | refine s_nilc (by exact rfl) (by exact rfl) ?_
      refine o_mkf [] [.pointer (some ⟨b12, 0, none⟩)] (by exact rfl) (by exact rfl) (by exact rfl) ?_
      skip
      refine o_mk [.func (.func 139) #[] #[.pointer (some ⟨b12, 0, none⟩)]] (by exact rfl) (by exact rfl) rfl ?_ ?_ (by simp) fun v2 hv2 => ?_
      · simp [Value.cells]
      · simp
      skip
      refine o_append_row (i := 4) (by exact rfl) (by exact rfl) (by exact rfl) (by exact rfl) (by exact .head _) (by exact rfl) (by simp [Value.cells, Value.oneCell']) (by omega) fun vd2 hvd2 => ?_
      repeat' first
        | refine s_fa (by exact rfl) (by exact rfl) ?_ | refine s_nilc (by exact rfl) (by exact rfl) ?_
      refine o_st_box (i := 2) (by exact rfl) (by exact rfl) (by exact rfl) hvd2.one (by simp) ?_
      repeat' first
        | refine s_nil ?_
      refine ret0 [2, 2, 2, 3, 3, 3] rfl rfl ⟨vt2, vd2, vb, vi, b12, ?_⟩
      rw [tabV_snoc, List.length_append, List.length_singleton, bestL_new, hMM]
      rw [inL, hMM]
      rfl
end Go.Proofs.YtpajjnkmaebhcabGreat
end
section
set_option linter.unusedVariables false
namespace Fil
/-- how many of some can be in, none of them next to another one, nor to one of a choice -/
def val (nb : Nat → List Nat) : List Nat → (Nat → Bool) → Nat
  | [], _ => 0
  | v :: E, C => if (nb v).all (fun u => !C u) then max (val nb E C) (val nb E (S1 v C) + 1) else val nb E C
structure Ind (nb : Nat → List Nat) (Y : List Nat) (C : Nat → Bool) : Prop where
  nd : Y.Nodup
  no : ∀ u ∈ Y, ∀ v ∈ Y, u ∉ nb v
  out : ∀ u ∈ Y, ∀ w ∈ nb u, C w = false
theorem val_upper {nb : Nat → List Nat} : ∀ {E Y : List Nat} {C : Nat → Bool}, Ind nb Y C → (∀ u ∈ Y, u ∈ E) → Y.length ≤ val nb E C
  | [], Y, C, h, hs => by
    cases Y with
    | nil => exact Nat.le_refl _
    | cons a Y => exact absurd (hs a (.head _)) (by simp)
  | v :: E, Y, C, h, hs => by
    rw [val]
    by_cases hv : v ∈ Y
    · have hok : (nb v).all (fun u => !C u) = true := by
        rw [List.all_eq_true]
        intro u hu
        rw [h.out v hv u hu]; rfl
      have h1 : Ind nb (Y.erase v) (S1 v C) := by
        refine ⟨h.nd.erase v, fun u hu x hx => h.no u (List.mem_of_mem_erase hu) x (List.mem_of_mem_erase hx), fun u hu x hx => ?_⟩
        have hu' := List.mem_of_mem_erase hu
        have : x ≠ v := fun e => h.no v hv u hu' (e ▸ hx)
        rw [S1, h.out u hu' x hx]
        simp [this]
      have h2 : ∀ u ∈ Y.erase v, u ∈ E := fun u hu => by
        have h3 := hs u (List.mem_of_mem_erase hu)
        rcases List.mem_cons.1 h3 with rfl | h3
        · exact absurd hu (fun hu => (h.nd.mem_erase_iff.1 hu).1 rfl)
        · exact h3
      have h3 := val_upper h1 h2
      rw [List.length_erase_of_mem hv] at h3
      rw [if_pos hok]
      have : 0 < Y.length := List.length_pos_of_mem hv
      omega
    · have h2 : ∀ u ∈ Y, u ∈ E := fun u hu => by
        rcases List.mem_cons.1 (hs u hu) with rfl | h3
        · exact absurd hu hv
        · exact h3
      have h3 := val_upper h h2
      split <;> omega
/-- is a vertex in, with a choice of those behind it? -/
def inB (nb : Nat → List Nat) (v : Nat) (E : List Nat) (C : Nat → Bool) : Bool := (nb v).all (fun u => !C u) && decide (val nb E C < val nb E (S1 v C) + 1)
def pickE (nb : Nat → List Nat) : List Nat → (Nat → Bool) → List Nat
  | [], _ => []
  | v :: E, C => if inB nb v E C then v :: pickE nb E (S1 v C) else pickE nb E C
theorem pickE_length (nb : Nat → List Nat) : ∀ (E : List Nat) (C : Nat → Bool), (pickE nb E C).length = val nb E C
  | [], _ => rfl
  | v :: E, C => by
    have h1 := pickE_length nb E C
    have h2 := pickE_length nb E (S1 v C)
    rw [pickE, val]
    cases h : (nb v).all (fun u => !C u)
    · rw [inB, h, Bool.false_and, if_neg (by simp), if_neg (by simp), h1]
    · rw [inB, h, Bool.true_and, if_pos rfl]
      by_cases hlt : val nb E C < val nb E (S1 v C) + 1
      · rw [decide_eq_true hlt, if_pos rfl, List.length_cons, h2]; omega
      · rw [decide_eq_false hlt, if_neg (by simp), h1]; omega
theorem pickE_sub (nb : Nat → List Nat) : ∀ (E : List Nat) (C : Nat → Bool), (pickE nb E C).Sublist E
  | [], _ => .slnil
  | v :: E, C => by
    rw [pickE]
    split
    · exact (pickE_sub nb E _).cons_cons v
    · exact (pickE_sub nb E _).cons v
theorem pickE_ind {nb : Nat → List Nat} (hsym : ∀ u v, u ∈ nb v → v ∈ nb u) (hirr : ∀ v, v ∉ nb v) : ∀ (E : List Nat) (C : Nat → Bool), E.Nodup → Ind nb (pickE nb E C) C
  | [], C, _ => ⟨.nil, by simp [pickE], by simp [pickE]⟩
  | v :: E, C, hn => by
    obtain ⟨hvE, hn⟩ := List.nodup_cons.1 hn
    rw [pickE]
    split
    · rename_i hb
      simp only [inB, Bool.and_eq_true] at hb
      have h := pickE_ind hsym hirr E (S1 v C) hn
      have hall := List.all_eq_true.1 hb.1
      have hout : ∀ u ∈ pickE nb E (S1 v C), ∀ w ∈ nb u, C w = false ∧ w ≠ v := fun u hu w hw => by
        have := h.out u hu w hw
        simpa [S1] using this
      refine ⟨List.nodup_cons.2 ⟨fun hm => hvE ((pickE_sub nb E _).mem hm), h.nd⟩, ?_, ?_⟩
      · intro u hu x hx
        rcases List.mem_cons.1 hu with rfl | hu
        · rcases List.mem_cons.1 hx with rfl | hx
          · exact hirr _
          · exact fun hm => (hout x hx _ hm).2 rfl
        · rcases List.mem_cons.1 hx with rfl | hx
          · exact fun hm => (hout u hu _ (hsym _ _ hm)).2 rfl
          · exact h.no u hu x hx
      · intro u hu w hw
        rcases List.mem_cons.1 hu with rfl | hu
        · simpa using hall w hw
        · exact (hout u hu w hw).1
    · exact pickE_ind hsym hirr E C hn
/-- what is known as a vertex is eliminated -/
structure StepOK (N : Nat) (near : List (List Nat)) (nb : Nat → List Nat) (v : Nat) (nr : List Nat) (tabs : List Tab) (E : List Nat) : Prop where
  asc : Asc nr
  vn : v ∉ nr
  lt : v < N
  small : nr.length ≤ N
  nrlt : ∀ u ∈ nr, u < N ∧ u ∉ E
  tok : ∀ t ∈ tabs, TabOK t ∧ (v ∈ t.1 → ∀ u ∈ t.1, u ∈ allV nr v) ∧ t.1.length ≤ N
  sum : ∀ C, sumT tabs C ≤ E.length
  few : tabs.length ≤ E.length
  new : v ∉ E
  inn : ∀ C, (∀ e ∈ E, C e = false) → C v = false → inV near v nr tabs (resC nr C) = inB nb v E C
def GoodT (N : Nat) (near : List (List Nat)) (nb : Nat → List Nat) : List Tab → List Nat → List (Nat × List Nat) → Prop
  | _, _, [] => True
  | tabs, E, p :: l => StepOK N near nb p.1 p.2 tabs E ∧ GoodT N near nb (restT p.1 tabs ++ [newT near p.1 p.2 tabs]) (p.1 :: E) l
def tabsT (near : List (List Nat)) (tabs : List Tab) (l : List (Nat × List Nat)) : List Tab := l.foldl (fun tabs p => restT p.1 tabs ++ [newT near p.1 p.2 tabs]) tabs
theorem tabsT_snoc (near : List (List Nat)) (tabs : List Tab) (l : List (Nat × List Nat)) (p : Nat × List Nat) : tabsT near tabs (l ++ [p]) = restT p.1 (tabsT near tabs l) ++ [newT near p.1 p.2 (tabsT near tabs l)] := by simp [tabsT]
theorem GoodT.at {N : Nat} {near : List (List Nat)} {nb : Nat → List Nat} {p : Nat × List Nat} : ∀ {l l2 : List (Nat × List Nat)} {tabs : List Tab} {E : List Nat}, GoodT N near nb tabs E (l ++ p :: l2) → StepOK N near nb p.1 p.2 (tabsT near tabs l) ((l.map Prod.fst).reverse ++ E)
  | [], l2, tabs, E, h => h.1
  | q :: l, l2, tabs, E, h => by
    have := GoodT.at (l := l) (l2 := l2) h.2
    simpa [tabsT] using this
/-- what holds as vertices are eliminated -/
structure EI (N : Nat) (near : List (List Nat)) (nb : Nat → List Nat) (keep : Nat → Bool) (A : Nat → Option (List Nat)) (tabs : List Tab) (E : List Nat) : Prop where
  wf : WF N A
  nbA : ∀ a m, A a = some m → ∀ u ∈ nb a, A u ≠ none → u ∈ m
  iso : ∀ a m, keep a = false → A a = some m → m = []
  gone : ∀ e ∈ E, e < N ∧ A e = none
  left : ∀ a, a < N → A a = none → a ∈ E ∨ keep a = false
  nd : E.Nodup
  tok : ∀ t ∈ tabs, TabOK t ∧ t.1.length ≤ N
  clq : ∀ t ∈ tabs, ∀ a ∈ t.1, ∃ m, A a = some m ∧ ∀ b ∈ t.1, b ≠ a → b ∈ m
  sum : ∀ C, (∀ e ∈ E, C e = false) → sumT tabs C = val nb E C
  le : ∀ C, sumT tabs C ≤ E.length
  few : tabs.length ≤ E.length
  tk : ∀ t ∈ tabs, ∀ a ∈ t.1, keep a = true
theorem sumT_append (l m : List Tab) (C : Nat → Bool) : sumT (l ++ m) C = sumT l C + sumT m C := by simp [sumT]
theorem sumT_congr {l : List Tab} {C C' : Nat → Bool} (h : ∀ t ∈ l, t.2 C = t.2 C') : sumT l C = sumT l C' := by
  rw [sumT, sumT, List.map_congr_left h]
section
variable {N : Nat} {near : List (List Nat)} {nb : Nat → List Nat} {keep : Nat → Bool} {A : Nat → Option (List Nat)} {tabs : List Tab} {E : List Nat} {v : Nat} {l : List Nat}
theorem elimF_some (h : WF N A) (hA : A v = some l) {a : Nat} {m : List Nat} : elimF A v a = some m ↔ a ≠ v ∧ ∃ m0, A a = some m0 ∧ m = if a ∈ l then addL (m0.filter fun x => x ≠ v) a (sortN l) else m0.filter fun x => x ≠ v := by
  rw [elimF, hA, Option.getD_some, joinF_some]
  constructor
  · rintro ⟨m1, h1, rfl⟩
    obtain ⟨h2, m0, h3, rfl⟩ := (takeF_some h hA).1 h1
    refine ⟨h2, m0, h3, ?_⟩
    simp only [(sortN_perm l).mem_iff]
  · rintro ⟨h2, m0, h3, rfl⟩
    refine ⟨_, (takeF_some h hA).2 ⟨h2, m0, h3, rfl⟩, ?_⟩
    simp only [(sortN_perm l).mem_iff]
theorem elimF_none (h : WF N A) (hA : A v = some l) {a : Nat} : elimF A v a = none ↔ a = v ∨ A a = none := by
  rw [elimF, hA, Option.getD_some, joinF_none, takeF_none (N := N)]
theorem elimF_keeps (h : WF N A) (hA : A v = some l) {a b : Nat} {m : List Nat} (ha : A a = some m) (hne : a ≠ v) (hb : b ∈ m) (hbv : b ≠ v) : ∃ m', elimF A v a = some m' ∧ b ∈ m' := by
  refine ⟨_, (elimF_some h hA).2 ⟨hne, m, ha, rfl⟩, ?_⟩
  have : b ∈ m.filter fun x => x ≠ v := List.mem_filter.2 ⟨hb, by simpa using hbv⟩
  split
  · exact mem_addL.2 (.inl this)
  · exact this
theorem EI.skip (h : EI N near nb keep A tabs E) (hA : A v = some l) (hk : keep v = false) : EI N near nb keep (elimF A v) tabs E := by
  have hl := h.iso v l hk hA
  subst hl
  have hs : ∀ a m, elimF A v a = some m ↔ a ≠ v ∧ ∃ m0, A a = some m0 ∧ m = m0.filter fun x => x ≠ v := fun a m => by
    rw [elimF_some h.wf hA]; simp
  refine ⟨h.wf.elim hA, ?_, ?_, ?_, ?_, h.nd, h.tok, ?_, h.sum, h.le, h.few, h.tk⟩
  · intro a m hm u hu hun
    obtain ⟨h1, m0, h2, rfl⟩ := (hs a m).1 hm
    have hun' : ¬ (u = v ∨ A u = none) := fun hh => hun ((elimF_none h.wf hA).2 hh)
    refine List.mem_filter.2 ⟨h.nbA a m0 h2 u hu (fun e => hun' (.inr e)), ?_⟩
    simpa using fun e => hun' (.inl e)
  · intro a m hka hm
    obtain ⟨h1, m0, h2, rfl⟩ := (hs a m).1 hm
    rw [h.iso a m0 hka h2]; rfl
  · intro e he
    exact ⟨(h.gone e he).1, (elimF_none h.wf hA).2 (.inr (h.gone e he).2)⟩
  · intro a haN ha
    rcases (elimF_none h.wf hA).1 ha with rfl | ha
    · exact .inr hk
    · exact h.left a haN ha
  · intro t ht a ha
    obtain ⟨m, h1, h2⟩ := h.clq t ht a ha
    have hav : a ≠ v := fun e => by
      have := h.tk t ht a ha
      rw [e, hk] at this; simp at this
    refine ⟨_, (hs a _).2 ⟨hav, m, h1, rfl⟩, fun b hb hne => List.mem_filter.2 ⟨h2 b hb hne, ?_⟩⟩
    have hbv : b ≠ v := fun e => by
      have := h.tk t ht b hb
      rw [e, hk] at this; simp at this
    simpa using hbv
theorem EI.facts (h : EI N near nb keep A tabs E) (hA : A v = some l) : v ∉ E ∧ Asc (sortN l) ∧ v ∉ sortN l ∧ (sortN l).length = l.length := by
  refine ⟨fun hv => ?_, sortN_asc (h.wf.nd v l hA), fun hv => h.wf.ne v l hA v ((sortN_perm l).mem_iff.1 hv) rfl, (sortN_perm l).length_eq⟩
  have := (h.gone v hv).2
  rw [hA] at this; simp at this
theorem EI.mine (h : EI N near nb keep A tabs E) (hA : A v = some l) {t : Tab} (ht : t ∈ tabs) (hv : v ∈ t.1) : ∀ u ∈ t.1, u ∈ allV (sortN l) v := by
  intro u hu
  rw [mem_allV, (sortN_perm l).mem_iff]
  by_cases e : u = v
  · exact .inr e
  · obtain ⟨m, h1, h2⟩ := h.clq t ht v hv
    obtain rfl : l = m := by simpa [hA] using h1
    exact .inl (h2 u hu e)
theorem EI.mineC (h : EI N near nb keep A tabs E) (hA : A v = some l) {C C' : Nat → Bool} (hC : ∀ u ∈ sortN l, C u = C' u) (hv : C v = C' v) : sumT (mineT v tabs) C = sumT (mineT v tabs) C' := by
  refine sumT_congr fun t ht => ?_
  obtain ⟨h1, h2⟩ := List.mem_filter.1 ht
  refine (h.tok t h1).1 _ _ fun u hu => ?_
  rcases mem_allV.1 (h.mine hA h1 (by simpa using h2) u hu) with h3 | rfl
  · exact hC u h3
  · exact hv
theorem EI.restC (h : EI N near nb keep A tabs E) {C C' : Nat → Bool} (hC : ∀ u, u ≠ v → C u = C' u) : sumT (restT v tabs) C = sumT (restT v tabs) C' := by
  refine sumT_congr fun t ht => ?_
  obtain ⟨h1, h2⟩ := List.mem_filter.1 ht
  refine (h.tok t h1).1 _ _ fun u hu => hC u fun e => ?_
  subst e
  simp [hu] at h2
theorem EI.inn (h : EI N near nb keep A tabs E) (hA : A v = some l) (hnear : near.getD v [] = nb v) (hnk : ∀ u ∈ nb v, keep u = true ∧ u < N) (C : Nat → Bool) (hC : ∀ e ∈ E, C e = false) (hCv : C v = false) :
    okV near v (sortN l) (resC (sortN l) C) = (nb v).all (fun u => !C u) ∧ sumT (restT v tabs) C + sumT (mineT v tabs) (resC (sortN l) C) = val nb E C ∧ sumT (restT v tabs) C + sumT (mineT v tabs) (S1 v (resC (sortN l) C)) = val nb E (S1 v C) := by
  obtain ⟨hvE, hasc, hvn, hlen⟩ := h.facts hA
  have e1 : sumT (mineT v tabs) (resC (sortN l) C) = sumT (mineT v tabs) C := h.mineC hA (fun u hu => by simp [resC, hu]) (by simp [resC, hvn, hCv])
  have e2 : sumT (mineT v tabs) (S1 v (resC (sortN l) C)) = sumT (mineT v tabs) (S1 v C) := h.mineC hA (fun u hu => by simp [S1, resC, hu]) (by simp [S1])
  have e3 : sumT (restT v tabs) C = sumT (restT v tabs) (S1 v C) := h.restC fun u hu => by simp [S1, hu]
  refine ⟨?_, ?_, ?_⟩
  · rw [okV, hnear, Bool.eq_iff_iff, decide_eq_true_eq, List.all_eq_true]
    constructor
    · intro hok u hu
      cases hCu : C u with
      | false => rfl
      | true =>
        exfalso
        have hun : A u ≠ none := fun hn => by
          rcases h.left u (hnk u hu).2 hn with h1 | h1
          · rw [hC u h1] at hCu; simp at hCu
          · rw [(hnk u hu).1] at h1; simp at h1
        have hul : u ∈ sortN l := (sortN_perm l).mem_iff.2 (h.nbA v l hA u hu hun)
        exact hok u hul (by simp [resC, hul, hCu]) hu
    · intro hall u hu hcu hm
      have := hall u hm
      simp only [resC, hu, decide_true, Bool.true_and] at hcu
      rw [hcu] at this; simp at this
  · rw [e1, ← sumT_split, h.sum C hC]
  · rw [e2, e3, ← sumT_split]
    refine h.sum _ fun e he => ?_
    have : e ≠ v := fun x => hvE (x ▸ he)
    simp [S1, hC e he, this]
theorem EI.stepOK (h : EI N near nb keep A tabs E) (hA : A v = some l) (hnear : near.getD v [] = nb v) (hnk : ∀ u ∈ nb v, keep u = true ∧ u < N) : StepOK N near nb v (sortN l) tabs E := by
  obtain ⟨hvE, hasc, hvn, hlen⟩ := h.facts hA
  refine ⟨hasc, hvn, h.wf.lt hA, by rw [hlen]; exact h.wf.len hA, ?_, fun t ht => ⟨(h.tok t ht).1, h.mine hA ht, (h.tok t ht).2⟩, h.le, h.few, hvE, ?_⟩
  · intro u hu
    obtain ⟨h1, h2, m, h3⟩ := h.wf.all hA u ((sortN_perm l).mem_iff.1 hu)
    exact ⟨h1, fun he => by have := (h.gone u he).2; rw [h3] at this; simp at this⟩
  · intro C hC hCv
    obtain ⟨h1, h2, h3⟩ := h.inn hA hnear hnk C hC hCv
    rw [inV, h1, inB]
    congr 1
    rw [decide_eq_decide]
    omega
theorem EI.step (h : EI N near nb keep A tabs E) (hA : A v = some l) (hk : keep v = true) (hnear : near.getD v [] = nb v) (hnk : ∀ u ∈ nb v, keep u = true ∧ u < N) : EI N near nb keep (elimF A v) (restT v tabs ++ [newT near v (sortN l) tabs]) (v :: E) := by
  obtain ⟨hvE, hasc, hvn, hlen⟩ := h.facts hA
  have hlk : ∀ u ∈ l, keep u = true := fun u hu => by
    obtain ⟨m, h1, h2⟩ := h.wf.sym v l hA u hu
    cases hku : keep u with
    | true => rfl
    | false => rw [h.iso u m hku h1] at h2; simp at h2
  refine ⟨h.wf.elim hA, ?_, ?_, ?_, ?_, List.nodup_cons.2 ⟨hvE, h.nd⟩, ?_, ?_, ?_, ?_, ?_, ?_⟩
  · intro a m hm u hu hun
    obtain ⟨h1, m0, h2, e⟩ := (elimF_some h.wf hA).1 hm
    have hun' : ¬ (u = v ∨ A u = none) := fun hh => hun ((elimF_none h.wf hA).2 hh)
    obtain ⟨m', h3, h4⟩ := elimF_keeps h.wf hA h2 h1 (h.nbA a m0 h2 u hu (fun e => hun' (.inr e))) (fun e => hun' (.inl e))
    rw [hm] at h3
    obtain rfl : m = m' := by simpa using h3
    exact h4
  · intro a m hka hm
    obtain ⟨h1, m0, h2, rfl⟩ := (elimF_some h.wf hA).1 hm
    have hal : a ∉ l := fun hal => by rw [hlk a hal] at hka; simp at hka
    rw [if_neg hal, h.iso a m0 hka h2]; rfl
  · intro e he
    rcases List.mem_cons.1 he with rfl | he
    · exact ⟨h.wf.lt hA, (elimF_none h.wf hA).2 (.inl rfl)⟩
    · exact ⟨(h.gone e he).1, (elimF_none h.wf hA).2 (.inr (h.gone e he).2)⟩
  · intro a haN ha
    rcases (elimF_none h.wf hA).1 ha with rfl | ha
    · exact .inl (.head _)
    · exact (h.left a haN ha).imp (.tail _) id
  · intro t ht
    rcases List.mem_append.1 ht with ht | ht
    · exact h.tok t (List.mem_filter.1 ht).1
    · obtain rfl : t = _ := by simpa using ht
      exact ⟨newT_ok _ _ _ _, by show (sortN l).length ≤ N; rw [hlen]; exact h.wf.len hA⟩
  · intro t ht a ha
    rcases List.mem_append.1 ht with ht | ht
    · obtain ⟨h1, h2⟩ := List.mem_filter.1 ht
      have hvt : v ∉ t.1 := by simpa using h2
      have hav : a ≠ v := fun e => hvt (e ▸ ha)
      obtain ⟨m, h3, h4⟩ := h.clq t h1 a ha
      refine ⟨_, (elimF_some h.wf hA).2 ⟨hav, m, h3, rfl⟩, fun b hb hne => ?_⟩
      have : b ∈ m.filter fun x => x ≠ v := List.mem_filter.2 ⟨h4 b hb hne, by simpa using fun e : b = v => hvt (e ▸ hb)⟩
      split
      · exact mem_addL.2 (.inl this)
      · exact this
    · obtain rfl : t = _ := by simpa using ht
      have ha : a ∈ sortN l := ha
      have hal := (sortN_perm l).mem_iff.1 ha
      obtain ⟨_, hav, m, h3⟩ := h.wf.all hA a hal
      refine ⟨_, (elimF_some h.wf hA).2 ⟨hav, m, h3, rfl⟩, fun b hb hne => ?_⟩
      rw [if_pos hal]
      exact mem_addL.2 (.inr ⟨hb, hne⟩)
  · intro C hC
    obtain ⟨h1, h2, h3⟩ := h.inn hA hnear hnk C (fun e he => hC e (.tail _ he)) (hC v (.head _))
    rw [sumT_append, val]
    have hn : sumT [newT near v (sortN l) tabs] C = newV near v (sortN l) tabs (resC (sortN l) C) := by simp [sumT, newT]
    rw [hn, newV, inV, h1]
    cases hall : (nb v).all fun u => !C u
    · rw [Bool.false_and, if_neg (by simp), if_neg (by simp)]; exact h2
    · rw [Bool.true_and, if_pos rfl]
      by_cases hlt : sumT (mineT v tabs) (resC (sortN l) C) < sumT (mineT v tabs) (S1 v (resC (sortN l) C)) + 1
      · rw [decide_eq_true hlt, if_pos rfl]; omega
      · rw [decide_eq_false hlt, if_neg (by simp)]; omega
  · intro C
    rw [sumT_append, List.length_cons]
    have hn : sumT [newT near v (sortN l) tabs] C = newV near v (sortN l) tabs (resC (sortN l) C) := by simp [sumT, newT]
    rw [hn, newV]
    have e1 : sumT (mineT v tabs) (resC (sortN l) C) = sumT (mineT v tabs) (fun u => C u && decide (u ≠ v)) := h.mineC hA (fun u hu => by
      have : u ≠ v := fun e => hvn (e ▸ hu)
      simp [resC, hu, this]) (by simp [resC, hvn])
    have e2 : sumT (mineT v tabs) (S1 v (resC (sortN l) C)) = sumT (mineT v tabs) (S1 v C) := h.mineC hA (fun u hu => by simp [S1, resC, hu]) (by simp [S1])
    have e3 : sumT (restT v tabs) C = sumT (restT v tabs) (S1 v C) := h.restC fun u hu => by simp [S1, hu]
    have e4 : sumT (restT v tabs) C = sumT (restT v tabs) (fun u => C u && decide (u ≠ v)) := h.restC fun u hu => by simp [hu]
    have l1 := h.le (S1 v C)
    have l2 := h.le (fun u => C u && decide (u ≠ v))
    rw [sumT_split v] at l1 l2
    split <;> omega
  · have h1 := List.length_filter_le (fun t : Tab => !decide (v ∈ t.1)) tabs
    have h2 := h.few
    rw [restT, List.length_append, List.length_singleton, List.length_cons]
    omega
  · intro t ht a ha
    rcases List.mem_append.1 ht with ht | ht
    · exact h.tk t (List.mem_filter.1 ht).1 a ha
    · obtain rfl : t = _ := by simpa using ht
      have ha : a ∈ sortN l := ha
      exact hlk a ((sortN_perm l).mem_iff.1 ha)
theorem EI.run (hnear : ∀ v, v < N → near.getD v [] = nb v) (hnk : ∀ v, v < N → ∀ u ∈ nb v, keep u = true ∧ u < N) : ∀ (k : Nat) (A : Nat → Option (List Nat)) (tabs : List Tab) (E : List Nat), EI N near nb keep A tabs E → GoodT N near nb tabs E ((runS N k A).filter fun p => keep p.1)
  | 0, A, tabs, E, h => trivial
  | k + 1, A, tabs, E, h => by
    cases hf : fewI A N with
    | none => simp [runS, hf, GoodT]
    | some v =>
      obtain ⟨hvN, l, hA⟩ := fewI_some hf
      simp only [runS, hf, hA, Option.getD_some]
      cases hk : keep v with
      | true =>
        rw [List.filter_cons_of_pos (by simpa using hk)]
        exact ⟨h.stepOK hA (hnear v hvN) (hnk v hvN), EI.run hnear hnk k _ _ _ (h.step hA hk (hnear v hvN) (hnk v hvN))⟩
      | false =>
        rw [List.filter_cons_of_neg (by simp [hk])]
        exact EI.run hnear hnk k _ _ _ (h.skip hA hk)
end
/-- all vertices come, each once -/
theorem runS_all {N : Nat} : ∀ (k : Nat) (A : Nat → Option (List Nat)), WF N A → leftN N A ≤ k → ((runS N k A).map Prod.fst).Nodup ∧ ∀ v, v ∈ (runS N k A).map Prod.fst ↔ A v ≠ none
  | 0, A, h, hk => by
    refine ⟨by simp [runS], fun v => ?_⟩
    simp only [runS, List.map_nil, List.not_mem_nil, false_iff, Decidable.not_not]
    have h0 : leftN N A = 0 := by omega
    by_cases hv : v < N
    · have := List.countP_eq_zero.1 h0 v (by simpa using hv)
      simpa using this
    · exact h.out v (by omega)
  | k + 1, A, h, hk => by
    cases hf : fewI A N with
    | none =>
      refine ⟨by simp [runS, hf], fun v => ?_⟩
      simp only [runS, hf, List.map_nil, List.not_mem_nil, false_iff, Decidable.not_not]
      by_cases hv : v < N
      · exact fewI_none hf v hv
      · exact h.out v (by omega)
    | some x =>
      obtain ⟨hxN, l, hA⟩ := fewI_some hf
      have h2 := leftN_elim h hA
      obtain ⟨i1, i2⟩ := runS_all k (elimF A x) (h.elim hA) (by omega)
      simp only [runS, hf, hA, Option.getD_some, List.map_cons]
      refine ⟨List.nodup_cons.2 ⟨fun hx => (i2 x).1 hx ((elimF_none h hA).2 (.inl rfl)), i1⟩, fun v => ?_⟩
      rw [List.mem_cons, i2]
      constructor
      · rintro (rfl | h3)
        · simp [hA]
        · exact fun e => h3 ((elimF_none h hA).2 (.inr e))
      · intro h3
        by_cases e : v = x
        · exact .inl e
        · refine .inr fun h4 => ?_
          rcases (elimF_none h hA).1 h4 with h5 | h5
          · exact e h5
          · exact h3 h5
end Fil
end
section
set_option linter.unusedVariables false
namespace Go.Sl
open Go Go.RowKit Fil
section
variable {P : Program} {w0 : World} {S0 : FS} {n : Nat} {F : List (Nat × Value)} {L Lr Ks K : List HP} {v : Value} {R : Act → World → Prop}
theorem St.bundle {w : World} (M : List HP) (h : St w0 S0 (M ++ L) w) : St w0 S0 (starHP M :: L) w := by
  obtain ⟨S, hm, hl⟩ := h
  obtain ⟨S1, S2, h1, h2, hd, ha, hb⟩ := sats_split hl
  exact ⟨S, hm, S1, S2, h1, h2, hd, ha, hb⟩
theorem c_bundle (M : List HP) (h : Reach w0 S0 n F (starHP M :: L) R) : Reach w0 S0 n F (M ++ L) R := h.conv fun _ hs => hs.bundle M
theorem sats_kid {w : World} {A : HP} {S : FS} (h : sats L S w) (hL : starHP Ks ∈ L) (hK : A ∈ Ks) : A.sat S w := sats_mem (sats_mem h hL) hK
theorem sats_kid2 {w : World} {A : HP} {S : FS} (h : sats L S w) (hL : starHP Ks ∈ L) (hK : starHP K ∈ Ks) (hA : A ∈ K) : A.sat S w := sats_mem (sats_kid h hL hK) hA
theorem St.kid2 {w : World} {A : HP} (h : St w0 S0 L w) (hL : starHP Ks ∈ L) (hK : starHP K ∈ Ks) (hA : A ∈ K) : ∃ S, A.sat S w := by
  obtain ⟨S, _, hl⟩ := h
  exact ⟨S, sats_kid2 hl hL hK hA⟩
theorem rb_kid2 {w : World} {b : Nat} {t : TypeId} {cs : List Value} (h : St w0 S0 L w) (hL : starHP Ks ∈ L) (hK : starHP K ∈ Ks) (hA : boxHP b t cs ∈ K) : RB w No b t cs := by
  obtain ⟨S, hsat⟩ := h.kid2 hL hK hA
  intro w' S' hm
  exact (hm.below.block _ (Array.getElem?_eq_some_iff.1 hsat.2).1).trans hsat.2
theorem ro_kid2 {w : World} {e : TypeId} {sz m : Nat} {ys : List Value} (h : St w0 S0 L w) (hL : starHP Ks ∈ L) (hK : starHP K ∈ Ks) (hA : rowHP v e sz m ys ∈ K) : RO w No v ys := by
  obtain ⟨S, hsat⟩ := h.kid2 hL hK hA
  exact RO.of_rd (rowHP_rd hsat)
theorem know_kid2 {e : TypeId} {sz m : Nat} {ys : List Value} (hL : starHP Ks ∈ L) (hK : starHP K ∈ Ks) (hA : rowHP v e sz m ys ∈ K) (h : Shp v m → Reach w0 S0 n F L R) : Reach w0 S0 n F L R := by
  intro a w hf hs
  obtain ⟨S, hsat⟩ := hs.kid2 hL hK hA
  exact h (rowHP_shp hsat) a w hf hs
theorem Lent.ro_kid2 {w : World} {S : FS} {L0 : List HP} {e : TypeId} {sz m : Nat} {ys : List Value} (h : Lent w0 S0 L0 Lr S w) (hL : starHP Ks ∈ Lr) (hK : starHP K ∈ Ks) (hA : rowHP v e sz m ys ∈ K) : RO w S v ys := by
  intro w' S' hm
  obtain ⟨Sr, hr, hd⟩ := h.rest
  have := HP.keep (sats_mem hr hL) hd hm
  exact rowHP_rd (sats_mem (sats_mem this hK) hA)
theorem Lent.shp {w : World} {S : FS} {L0 : List HP} {e : TypeId} {sz m : Nat} {ys : List Value} (h : Lent w0 S0 L0 Lr S w) (hL : rowHP v e sz m ys ∈ Lr) : Shp v m := by
  obtain ⟨Sr, hr, hd⟩ := h.rest
  exact rowHP_shp (sats_mem hr hL)
theorem Lent.shp_kid {w : World} {S : FS} {L0 : List HP} {e : TypeId} {sz m : Nat} {ys : List Value} (h : Lent w0 S0 L0 Lr S w) (hL : starHP Ks ∈ Lr) (hK : rowHP v e sz m ys ∈ Ks) : Shp v m := by
  obtain ⟨Sr, hr, hd⟩ := h.rest
  exact rowHP_shp (sats_kid hr hL hK)
theorem Lent.shp_kid2 {w : World} {S : FS} {L0 : List HP} {e : TypeId} {sz m : Nat} {ys : List Value} (h : Lent w0 S0 L0 Lr S w) (hL : starHP Ks ∈ Lr) (hK : starHP K ∈ Ks) (hA : rowHP v e sz m ys ∈ K) : Shp v m := by
  obtain ⟨Sr, hr, hd⟩ := h.rest
  exact rowHP_shp (sats_kid2 hr hL hK hA)
theorem Lent.rb_own {w : World} {S : FS} {L0 : List HP} {b : Nat} {t : TypeId} {cs : List Value} (h : Lent w0 S0 L0 Lr S w) (hL : boxHP b t cs ∈ Lr) : RB w S b t cs := by
  intro w' S' hm
  obtain ⟨Sr, hr, hd⟩ := h.rest
  exact (HP.keep (sats_mem hr hL) hd hm).2
theorem Lent.ros {w : World} {S : FS} {L0 : List HP} {e : TypeId} {m : Nat} {hs : List Value} {ls : List (List Nat)} (h : Lent w0 S0 L0 Lr S w) (hL : rowHP v e 1 m hs ∈ Lr) (hm : m = ls.length) (hK : starHP (kids rowN hs ls) ∈ Lr) : ROs w S v hs ls := by
  obtain ⟨Sr, hr, hd⟩ := h.rest
  have hl : hs.length = m := by have := (sats_mem hr hL).1; omega
  refine ⟨hm ▸ h.shp hL, by omega, h.ro_own hL, fun i x l h1 h2 => ?_⟩
  have hk := kids_mem (f := rowN) h1 h2
  exact ⟨h.shp_kid hK hk, h.ro_kid hK hk⟩
end
end Go.Sl
namespace Fil
def dsT (near : List (List Nat)) : List Tab → List (Nat × List Nat) → List (List Nat × List Bool)
  | _, [] => []
  | tabs, p :: l => (bestL (newT near p.1 p.2 tabs), inL near p.1 p.2 tabs) :: dsT near (restT p.1 tabs ++ [newT near p.1 p.2 tabs]) l
theorem dsT_snoc (near : List (List Nat)) (p : Nat × List Nat) : ∀ (tabs : List Tab) (l : List (Nat × List Nat)), dsT near tabs (l ++ [p]) = dsT near tabs l ++ [(bestL (newT near p.1 p.2 (tabsT near tabs l)), inL near p.1 p.2 (tabsT near tabs l))]
  | _, [] => rfl
  | tabs, q :: l => by
    rw [List.cons_append, dsT, dsT_snoc near p _ l]; rfl
theorem dsT_length (near : List (List Nat)) : ∀ (tabs : List Tab) (l : List (Nat × List Nat)), (dsT near tabs l).length = l.length
  | _, [] => rfl
  | tabs, q :: l => by rw [dsT, List.length_cons, dsT_length near _ l, List.length_cons]
theorem dsT_get (near : List (List Nat)) (p : Nat × List Nat) (l2 : List (Nat × List Nat)) : ∀ (tabs : List Tab) (l : List (Nat × List Nat)), (dsT near tabs (l ++ p :: l2))[l.length]? = some (bestL (newT near p.1 p.2 (tabsT near tabs l)), inL near p.1 p.2 (tabsT near tabs l))
  | _, [] => rfl
  | tabs, q :: l => by
    rw [List.cons_append, dsT, List.length_cons, List.getElem?_cons_succ, dsT_get near p l2 _ l]; rfl
end Fil
namespace Go.Proofs.YtpajjnkmaebhcabGreat
open Go Go.RowKit Go.Sl Fil
def poolK (x : Value × Nat × Value) (d : List Nat × List Bool) : HP := starHP [rowHP x.1 3 1 d.1.length (nV d.1), boxHP x.2.1 57 [x.2.2], rowHP x.2.2 4 1 d.2.length (bV d.2)]
def fdV (x : Value × Nat × Value) : Value := .func (.func 139) #[] #[.pointer (some ⟨x.2.1, 0, none⟩)]
structure TInv (ho : List Value) (T : List (Nat × List Nat)) (pool : List (Value × Nat × Value)) (ds : List (List Nat × List Bool)) (tv : List (Value × Value)) (tabs : List Tab) : Prop where
  len : tv.length = tabs.length
  at' : ∀ (k : Nat) h t, tv[k]? = some h → tabs[k]? = some t → (∃ q : Nat, ho[q]? = some h.1 ∧ (T.map Prod.snd)[q]? = some t.1) ∧ ∃ (j : Nat) (x : Value × Nat × Value) (d : List Nat × List Bool), pool[j]? = some x ∧ ds[j]? = some d ∧ x.1 = h.2 ∧ d.1 = bestL t
theorem TInv.ro {w0 w : World} {S0 S : FS} {L0 Lr : List HP} {ho : List Value} {T : List (Nat × List Nat)} {pool : List (Value × Nat × Value)} {ds : List (List Nat × List Bool)} {tv : List (Value × Value)} {tabs : List Tab} (hT : TInv ho T pool ds tv tabs) (h : Lent w0 S0 L0 Lr S w) (h1 : starHP (kids rowN ho (T.map Prod.snd)) ∈ Lr) (h2 : starHP (List.zipWith poolK pool ds) ∈ Lr) : TabRO w S tv tabs := by
  refine ⟨hT.len, fun i a t e1 e2 => ?_⟩
  obtain ⟨⟨q, q1, q2⟩, j, x, d, j1, j2, j3, j4⟩ := hT.at' i a t e1 e2
  have k1 := kids_mem (f := rowN) q1 q2
  have k2 : poolK x d ∈ List.zipWith poolK pool ds := List.mem_of_getElem? (i := j) (by rw [List.getElem?_zipWith, j1, j2])
  have hl : d.1.length = 2 ^ t.1.length := by rw [j4, bestL_length]
  refine ⟨h.shp_kid h1 k1, h.ro_kid h1 k1, ?_, ?_⟩
  · rw [← j3, ← hl]; exact h.shp_kid2 h2 k2 (.head _)
  · rw [← j3, ← j4]; exact h.ro_kid2 h2 k2 (.head _)
theorem TInv.step {ho : List Value} {T : List (Nat × List Nat)} {pool : List (Value × Nat × Value)} {ds : List (List Nat × List Bool)} {tv : List (Value × Value)} {tabs : List Tab} (hT : TInv ho T pool ds tv tabs) {k v : Nat} {nr : List Nat} {hx : Value} (hk : T[k]? = some (v, nr)) (hh : ho[k]? = some hx) (near : List (List Nat)) (x : Value × Nat × Value) (il : List Bool) (hp : pool.length = ds.length) :
    TInv ho T (pool ++ [x]) (ds ++ [(bestL (newT near v nr tabs), il)]) (restV v tv tabs ++ [(hx, x.1)]) (restT v tabs ++ [newT near v nr tabs]) := by
  have hlen := restV_length (v := v) hT.len
  refine ⟨by simp [hlen], fun i a t e1 e2 => ?_⟩
  have hz := zip_filter (fun t : Tab => !decide (v ∈ t.1)) tv tabs hT.len
  by_cases hi : i < (restV v tv tabs).length
  · rw [List.getElem?_append_left hi] at e1
    rw [List.getElem?_append_left (by omega)] at e2
    unfold restT at e2
    rw [← hz] at e2
    unfold restV at e1
    rw [List.getElem?_map, Option.map_eq_some_iff] at e1 e2
    obtain ⟨q1, f1, rfl⟩ := e1
    obtain ⟨q2, f2, rfl⟩ := e2
    rw [f1] at f2
    obtain rfl : q1 = q2 := Option.some.inj f2
    obtain ⟨hm, _⟩ := List.mem_filter.1 (List.mem_of_getElem? f1)
    obtain ⟨c, hc⟩ := List.getElem?_of_mem hm
    rw [List.getElem?_zip_eq_some] at hc
    obtain ⟨g1, j, y, d, j1, j2, j3, j4⟩ := hT.at' c _ _ hc.1 hc.2
    exact ⟨g1, j, y, d, by rw [List.getElem?_append_left (List.getElem?_eq_some_iff.1 j1).1]; exact j1, by rw [List.getElem?_append_left (List.getElem?_eq_some_iff.1 j2).1]; exact j2, j3, j4⟩
  · rw [List.getElem?_append_right (by omega)] at e1
    rw [List.getElem?_append_right (by omega), ← hlen] at e2
    have hi0 : i - (restV v tv tabs).length = 0 := by
      have := (List.getElem?_eq_some_iff.1 e1).1
      simp at this; omega
    rw [hi0] at e1 e2
    obtain rfl : (hx, x.1) = a := by simpa using e1
    obtain rfl : newT near v nr tabs = t := by simpa using e2
    exact ⟨⟨k, hh, by simp [hk, newT]⟩, pool.length, x, (bestL (newT near v nr tabs), il), by simp, by rw [hp]; simp, rfl, rfl⟩
end Go.Proofs.YtpajjnkmaebhcabGreat
end
section
namespace Go.Proofs.YtpajjnkmaebhcabGreat
open Go.RowKit Go.Sl Fil
set_option maxRecDepth 100000
set_option maxHeartbeats 8000000
set_option linter.unusedVariables false
set_option linter.unusedSimpArgs false
attribute [local irreducible] Code.wp wpList bodyPost wpQuiet Exit.then Exit.inBlock Post wpAnyH wpOp
theorem back1_ok (b : Nat) (v : Value) (vs : List Nat) (hs : List Value) (w : World) (S : FS) (hb : RB w S b 138 [v]) (hsh : Shp v vs.length) (hl : hs.length = vs.length) (hr : RO w S v (stV vs hs)) (hN : vs.length ≤ 1048576) :
    IterOK Tryz.prog 140 [.pointer (some ⟨b, 0, none⟩)] vs.length (fun i => [.int .i64 ((vs.length : Int) - 1 - (i : Int)), .agg #[.int .i64 ((vs.getD (vs.length - 1 - i) 0 : Nat) : Int), hs.getD (vs.length - 1 - i) undef]]) w S := by
  intro l LL hy M hM hsat
  refine enter (vs := [_, _]) Tryz.func140 rfl Tryz.ntmps140 rfl hsat ?_
  repeat' first
    | refine k_then ?_ | refine c_seq ?_ | refine c_region ?_ | refine s_nil ?_ | refine s_assign (by exact rfl) (by exact rfl) ?_ | refine s_sub (by exact rfl) (by exact rfl) (by exact rfl) (by omega) ?_ | refine s_len (by exact rfl) (by exact rfl) (by assumption) ?_ | refine s_ld_rb (by exact rfl) (by exact rfl) (by assumption) (by exact rfl) ?_ | refine c_block ?_
  refine c_loop (fun x : Nat × List HP => x.1 ≤ vs.length ∧ LL x.1 x.2) (fun x => [(0, .func (.yield l) #[] #[]), (1, .pointer (some ⟨b, 0, none⟩)), (3, .int .i64 ((vs.length : Int) - 1 - (x.1 : Int)))]) (fun x => x.2) (fun x => vs.length - x.1) (0, M) (List.replicate M.length 0) ⟨by simp, hM⟩ (pick_id M) ⟨rfl, rfl, by simp [fget], trivial⟩ ?_
  clear hM hsat
  rintro ⟨i, M⟩ ⟨hi, hM⟩
  dsimp only at hi hM ⊢
  by_cases hil : i < vs.length
  · generalize hreg : Code.region 3 _ _ = creg
    repeat' first
      | refine k_then ?_ | refine c_seq ?_ | refine c_region ?_ | refine s_nil ?_ | refine s_move (by exact rfl) (by exact rfl) ?_ | refine s_geq (by exact rfl) (by exact rfl) (by exact rfl) ?_ | refine c_block ?_ | refine c_skip ?_ | (refine c_cond_p (by exact rfl) (fun h => ?_) (fun h => ?_) <;> try (exfalso; omega))
    subst hreg
    have hj : vs.length - 1 - i < vs.length := by omega
    obtain ⟨x, hx⟩ : ∃ x, vs[vs.length - 1 - i]? = some x := ⟨_, List.getElem?_eq_getElem hj⟩
    obtain ⟨h, hh⟩ : ∃ h, hs[vs.length - 1 - i]? = some h := ⟨_, List.getElem?_eq_getElem (by omega)⟩
    have hgx : vs.getD (vs.length - 1 - i) 0 = x := by rw [List.getD_eq_getElem?_getD, hx]; rfl
    have hgh : hs.getD (vs.length - 1 - i) undef = h := by rw [List.getD_eq_getElem?_getD, hh]; rfl
    obtain ⟨_, _, hE⟩ := stV_get hx hh
    refine c_region_k 6 (by exact rfl) ?_
    simp only [List.take_succ_cons, List.take_zero, List.drop_succ_cons, List.drop_zero]
    rw [show (vs.length : Int) - 1 - (i : Int) = ((vs.length - 1 - i : Nat) : Int) by omega]
    generalize hjj : vs.length - 1 - i = j at *
    repeat' first
      | refine k_then ?_ | refine s_nil ?_ | refine s_move (by exact rfl) (by exact rfl) ?_ | refine s_idx (by exact rfl) (by exact rfl) (by exact rfl) (by assumption) (by first | assumption | omega) ?_ | refine s_ldk_ro (by exact rfl) (by exact rfl) (by assumption) (by decide) (by assumption) (by exact rfl) ?_ | refine s_ld_rb (by exact rfl) (by exact rfl) (by assumption) (by exact rfl) ?_
    refine y_yield (K := LL (i + 1)) (by exact rfl) rfl (vs := [.int .i64 (j : Int), .agg #[.int .i64 (x : Int), h]]) (by exact rfl) (fun W S' hm hs => by
      have := hy i M W S' hil hM hm hs
      dsimp only at this
      rw [hjj, hgx, hgh, show (vs.length : Int) - 1 - (i : Int) = (j : Int) by omega] at this
      exact this) fun M' hM' => ?_
    refine y_rest (by exact rfl) ?_
    repeat' first
      | refine k_then ?_ | refine c_region ?_ | refine s_nil ?_ | refine s_move (by exact rfl) (by exact rfl) ?_ | refine s_assign (by exact rfl) (by exact rfl) ?_ | refine s_sub (by exact rfl) (by exact rfl) (by exact rfl) (by omega) ?_ | refine s_not (by exact rfl) (by exact rfl) ?_ | refine c_skip ?_ | refine k_blk ?_ | refine c_cond_f (by exact rfl) ?_
    refine c_round (i + 1, M') (List.replicate M'.length 0) (pick_id M') ⟨rfl, rfl, by rw [show (vs.length : Int) - 1 - ((i + 1 : Nat) : Int) = (j : Int) - 1 by omega]; rfl, trivial⟩ ⟨by dsimp only; omega, hM'⟩ (by dsimp only; omega)
  · repeat' first
      | refine k_then ?_ | refine c_seq ?_ | refine c_region ?_ | refine s_nil ?_ | refine s_move (by exact rfl) (by exact rfl) ?_ | refine s_geq (by exact rfl) (by exact rfl) (by exact rfl) ?_ | refine c_exit ?_ | refine k_then_exit ?_ | refine k_blk_eq ?_ | (refine c_cond_p (by exact rfl) (fun h => ?_) (fun h => ?_) <;> try (exfalso; omega))
    obtain rfl : i = vs.length := by omega
    refine ret0 (List.replicate M.length 0) rfl (pick_id M) hM
theorem Backward_ok (v : Value) (w : World) (hv : v.oneCell' = true) : Calls Tryz.prog 103 #[v] w (Post w No fun r L' => ∃ b, r = .func (.func 140) #[] #[.pointer (some ⟨b, 0, none⟩)] ∧ L' = [boxHP b 138 [v]]) := by
  refine enter0 (vs := [_]) Tryz.func103 rfl Tryz.ntmps103 rfl ?_
  repeat' first
    | refine k_then ?_ | refine c_seq ?_ | refine c_region ?_ | refine s_nil ?_ | refine s_assign (by exact rfl) (by exact rfl) ?_ | refine o_box (by exact rfl) (by exact rfl) (fun b => ?_)
  refine o_mkf [] [.pointer (some ⟨b, 0, none⟩)] (by exact rfl) (by exact rfl) (by exact rfl) ?_
  repeat' first
    | refine k_then ?_ | refine s_nil ?_ | refine s_assign (by exact rfl) (by exact rfl) ?_ | refine c_ret ?_
  rw [one_cells hv]
  refine ret1 [0] rfl rfl rfl ⟨b, rfl, rfl⟩
end Go.Proofs.YtpajjnkmaebhcabGreat
end
section
namespace Fil
structure MaxIn (nb : Nat → List Nat) (N : Nat) (keep : Nat → Bool) (out : List Nat) : Prop where
  ind : Ind nb out fun _ => false
  mem : ∀ u ∈ out, u < N ∧ keep u = true
  top : ∀ Y, Ind nb Y (fun _ => false) → (∀ u ∈ Y, u < N ∧ keep u = true) → Y.length ≤ out.length
theorem nearS_lt {n : Int} {es : List E} (hR : RightG n es) {u v : Nat} (h : u ∈ nearS (tn es) v) : u < n.toNat ∧ v < n.toNat ∧ u ≠ v ∧ v ∈ nearS (tn es) u := by
  have hne : ∀ e ∈ tn es, e.1 ≠ e.2 := fun e he => by have := (hR.good.lt e he).1; omega
  have h1 := (mem_nb hne).1 (mem_nearS.1 h)
  rw [mem_nearS, mem_nb hne]
  rcases h1 with h1 | h1
  · have := hR.good.lt _ h1; dsimp only at this
    exact ⟨by omega, by omega, by omega, .inr h1⟩
  · have := hR.good.lt _ h1; dsimp only at this
    exact ⟨by omega, by omega, by omega, .inl h1⟩
structure HInv (ho : List Go.Value) (T l : List (Nat × List Nat)) (hl : List Go.Value) : Prop where
  len : hl.length = l.length
  at' : ∀ (j : Nat) h p, hl[j]? = some h → l[j]? = some p → ∃ q : Nat, ho[q]? = some h ∧ T[q]? = some p
theorem HInv.step {ho : List Go.Value} {T l : List (Nat × List Nat)} {hl : List Go.Value} (h : HInv ho T l hl) {k : Nat} {p : Nat × List Nat} {x : Go.Value} (h1 : T[k]? = some p) (h2 : ho[k]? = some x) : HInv ho T (l ++ [p]) (hl ++ [x]) := by
  have hlen := h.len
  refine ⟨by simp [hlen], fun j y q e1 e2 => ?_⟩
  by_cases hj : j < hl.length
  · rw [List.getElem?_append_left hj] at e1
    rw [List.getElem?_append_left (by omega)] at e2
    exact h.at' j y q e1 e2
  · rw [List.getElem?_append_right (by omega)] at e1
    rw [List.getElem?_append_right (by omega), ← hlen] at e2
    have hj0 : j - hl.length = 0 := by
      have := (List.getElem?_eq_some_iff.1 e1).1
      simp at this; omega
    rw [hj0] at e1 e2
    obtain rfl : x = y := by simpa using e1
    obtain rfl : p = q := by simpa using e2
    exact ⟨k, h2, h1⟩
theorem filter_take {T : List (Nat × List Nat)} {k : Nat} {p : Nat × List Nat} (h : T[k]? = some p) (f : Nat × List Nat → Bool) : (T.take (k + 1)).filter f = (T.take k).filter f ++ (if f p then [p] else []) ∧ T.filter f = (T.take k).filter f ++ ((if f p then [p] else []) ++ (T.drop (k + 1)).filter f) := by
  have h1 : T.take (k + 1) = T.take k ++ [p] := by rw [List.take_add_one, h]; rfl
  have h2 : (T.take (k + 1)).filter f = (T.take k).filter f ++ (if f p then [p] else []) := by
    rw [h1, List.filter_append]
    cases hf : f p <;> simp [hf]
  refine ⟨h2, ?_⟩
  conv => lhs; rw [← List.take_append_drop (k + 1) T]
  rw [List.filter_append, h2, List.append_assoc]
theorem EI.start {n : Int} {es : List E} (hR : RightG n es) (hWF : WF n.toNat (fun v => if v < n.toNat then some (nearS (tn es) v) else none)) (keep : Nat → Bool) (hkeep : ∀ a u, u ∈ nearS (tn es) a → keep u = true) (near : List (List Nat)) :
    EI n.toNat near (nearS (tn es)) keep (fun v => if v < n.toNat then some (nearS (tn es) v) else none) [] [] := by
  refine ⟨hWF, ?_, ?_, by simp, ?_, .nil, by simp, by simp, fun C _ => rfl, fun C => Nat.le_refl _, Nat.le_refl _, by simp⟩
  · intro a m hm u hu _
    split at hm
    · obtain rfl : _ = m := by simpa using hm
      exact hu
    · simp at hm
  · intro a m hka hm
    split at hm
    · obtain rfl : _ = m := by simpa using hm
      refine List.eq_nil_iff_forall_not_mem.2 fun u hu => ?_
      rw [hkeep u a (nearS_lt hR hu).2.2.2] at hka
      simp at hka
    · simp at hm
  · intro a ha hn
    rw [if_pos ha] at hn; simp at hn
end Fil
namespace Go.Proofs.YtpajjnkmaebhcabGreat
open Go Go.RowKit Go.Sl Fil
set_option maxRecDepth 100000
set_option maxHeartbeats 8000000
set_option linter.unusedVariables false
set_option linter.unusedSimpArgs false
attribute [local irreducible] Code.wp wpList bodyPost wpQuiet Exit.then Exit.inBlock Post wpAnyH wpOp
theorem poolK_eq (near : List (List Nat)) (x : Nat) (nr : List Nat) (tabs : List Tab) (vb vi : Value) (bi : Nat) : starHP [rowHP vb 3 1 (2 ^ nr.length) (nV (bestL (newT near x nr tabs))), boxHP bi 57 [vi], rowHP vi 4 1 (2 ^ nr.length) (bV (inL near x nr tabs))] = poolK (vb, bi, vi) (bestL (newT near x nr tabs), inL near x nr tabs) := by
  have h1 : (bestL (newT near x nr tabs)).length = 2 ^ nr.length := bestL_length _
  have h2 : (inL near x nr tabs).length = 2 ^ nr.length := by simp [inL]
  simp only [poolK, h1, h2]
structure PX where
  k : Nat
  hl : List Value
  vl : Value
  tv : List (Value × Value)
  vt : Value
  vd : Value
  pool : List (Value × Nat × Value)
theorem piece_ok (n : Int) (v vk : Value) (es : List E) (ks : List Bool) (w : World) (hs : Shp v es.length) (hr : RO w No v (esV es)) (hR : RightG n es) (h39 : n ≤ 39) (hsk : Shp vk ks.length) (hrk : RO w No vk (bV ks)) (hkl : ks.length = n.toNat) (hkeep : ∀ a u, u ∈ nearS (tn es) a → ks.getD u false = true) :
    Calls Tryz.prog 79 #[.agg #[.int .i64 n, v], vk] w (Post w No fun r L' => ∃ out, L' = [rowHP r 3 1 out.length (nV out)] ∧ MaxIn (nearS (tn es)) n.toNat (fun u => ks.getD u false) out) := by
  have hlo := hR.lo
  have hhi := hR.hi
  have hnd : ∀ u, (nearS (tn es) u).Nodup := fun u => (List.mergeSort_perm _ _).nodup_iff.2 (nb_nodup hR u)
  have hWF := WF.near hR hnd
  refine enterM0 (vs := [_, _]) Tryz.func79 rfl Tryz.ntmps79 rfl ?_
  repeat' first
    | refine k_then ?_ | refine c_seq ?_ | refine c_region ?_ | refine s_nil ?_ | refine s_ldk_box (by exact rfl) (by exact rfl) (by exact .tail _ (.head _)) (by exact rfl) (by exact rfl) ?_ | refine o_box (by exact rfl) (by exact rfl) (fun b => ?_) | refine o_alloc (by exact rfl) (fun b => ?_)
  revert b; intro b4
  revert b; intro b2
  refine o_call (by exact rfl) (by exact rfl) (fun w h => Near_ok n v es w hs (ro_old h hr) hR) ?_
  rintro vn _ ⟨hn, hnl, rfl⟩
  refine know_row (v := vn) (.head _) fun hvn _ => ?_
  skip
  refine o_build (cs := [vn, .slice none 0 0, .slice none 0 0]) [(0, vn, [vn])] (by exact rfl) (by exact rfl) (by
    intro q hq
    obtain rfl : q = _ := by simpa using hq
    exact one_cells hvn.one) (by exact rfl) ?_
  repeat' first
    | refine o_box (by exact rfl) (by exact rfl) (fun b => ?_) | refine o_alloc (by exact rfl) (fun b => ?_)
  revert b; intro b5
  revert b; intro bs
  refine o_st_box (i := 0) (by exact rfl) (by exact rfl) (by exact rfl) rfl (by simp [Value.cells]) ?_
  repeat' first
    | refine k_then ?_ | refine c_seq ?_ | refine c_region ?_ | refine s_nil ?_ | refine s_assign (by exact rfl) (by exact rfl) ?_ | refine s_ldk_box (by exact rfl) (by exact rfl) (by exact .tail _ (.tail _ (.tail _ (.tail _ (.tail _ (.head _)))))) (by exact rfl) (by exact rfl) ?_
  refine o_call (by exact rfl) (by exact rfl) (fun w h => steps_ok n v es w hs (ro_old h hr) hR) ?_
  rintro _ _ ⟨vs, ho, T, hT, rfl, hol, rfl⟩
  have hnear : ∀ v, v < n.toNat → ((List.range n.toNat).map (nearS (tn es))).getD v [] = nearS (tn es) v := fun v hv => nearL_get hv
  have hnl2 : ((List.range n.toNat).map (nearS (tn es))).length = n.toNat := by simp
  have hG := EI.run (near := (List.range n.toNat).map (nearS (tn es))) (nb := nearS (tn es)) (keep := fun u => ks.getD u false) hnear (fun v _ u hu => ⟨hkeep v u hu, (nearS_lt hR hu).1⟩) n.toNat _ [] [] (EI.start hR hWF (fun u => ks.getD u false) hkeep _)
  have hlft : leftN n.toNat (fun v => if v < n.toNat then some (nearS (tn es) v) else none) ≤ n.toNat := by
    have := List.countP_le_length (l := List.range n.toNat) (p := fun v => ((fun v => if v < n.toNat then some (nearS (tn es) v) else none) v : Option (List Nat)).isSome)
    rwa [List.length_range] at this
  obtain ⟨hTn, hTm⟩ := runS_all _ _ hWF hlft
  rw [← hT] at hG hTn hTm
  have hTm : ∀ v, v ∈ T.map Prod.fst ↔ v < n.toNat := fun v => by
    rw [hTm]
    by_cases hv : v < n.toNat <;> simp [hv]
  have hTl : T.length ≤ n.toNat := by
    have := nodup_length hTn fun u hu => (hTm u).1 hu
    simpa using this
  generalize (List.range n.toNat).map (nearS (tn es)) = near at *
  generalize hkf : (fun u => ks.getD u false) = kf at *
  have hkfv : ∀ v, ks.getD v false = kf v := fun v => by rw [← hkf]
  simp only [hkfv] at hG
  clear hT hlft hWF
  refine know_row (v := vs) (.head _) fun hvs _ => ?_
  repeat' first
    | refine k_then ?_ | refine c_seq ?_ | refine c_region ?_ | refine s_nil ?_ | refine s_move (by exact rfl) (by exact rfl) ?_ | refine s_assign (by exact rfl) (by exact rfl) ?_ | refine s_len (by exact rfl) (by exact rfl) (by assumption) ?_ | refine s_extract (by exact rfl) (by exact rfl) (by exact rfl) ?_ | refine c_block ?_
  refine c_star0 ?_
  refine c_nil 142 2 ?_
  refine c_nil 89 1 ?_
  refine c_nil 177 2 ?_
  refine c_loop (fun x : PX => x.k ≤ T.length ∧ HInv ho T ((T.take x.k).filter fun p => kf p.1) x.hl ∧ x.pool.length = ((T.take x.k).filter fun p => kf p.1).length ∧ TInv ho T x.pool (dsT near [] ((T.take x.k).filter fun p => kf p.1)) x.tv (tabsT near [] ((T.take x.k).filter fun p => kf p.1)))
    (fun x => [(1, vk), (4, .pointer (some ⟨b4, 0, none⟩)), (5, .pointer (some ⟨b5, 0, none⟩)), (6, x.vl), (26, vs), (27, .int .i64 (T.length : Int)), (28, .int .i64 (x.k : Int))])
    (fun x => [boxHP b5 133 [.pointer (some ⟨bs, 0, none⟩)], rowHP vs 142 2 T.length (stV (T.map Prod.fst) ho), boxHP bs 137 [vn, x.vt, x.vd], rowHP x.vt 177 2 x.tv.length (tabV x.tv), rowHP x.vd 89 1 (x.pool.map fdV).length (x.pool.map fdV), starHP (List.zipWith poolK x.pool (dsT near [] ((T.take x.k).filter fun p => kf p.1))), rowHP x.vl 142 2 ((T.take x.k).filter fun p => kf p.1).length (stV (((T.take x.k).filter fun p => kf p.1).map Prod.fst) x.hl), starHP (kids rowN ho (T.map Prod.snd)), rowHP vn 28 1 n.toNat hn, starHP (kids rowN hn near), boxHP b4 28 [.slice none 0 0]]) (fun x => T.length - x.k) ⟨0, [], .slice none 0 0, [], .slice none 0 0, .slice none 0 0, []⟩ [6, 4, 5, 0, 0, 1, 0, 0, 0, 0, 0] ⟨Nat.zero_le _, ⟨rfl, by simp⟩, rfl, ⟨rfl, by simp⟩⟩ (by exact rfl) ⟨rfl, rfl, rfl, rfl, rfl, rfl, rfl, trivial⟩ ?_
  rintro ⟨k, hl, vl, tv, vt, vd, pool⟩ ⟨hk, hH, hpl, hTI⟩
  dsimp only at hk hH hpl hTI ⊢
  by_cases hkl : k < T.length
  · obtain ⟨⟨x, nr⟩, hp⟩ : ∃ p, T[k]? = some p := ⟨_, List.getElem?_eq_getElem hkl⟩
    obtain ⟨hx, hhx⟩ : ∃ h, ho[k]? = some h := ⟨_, List.getElem?_eq_getElem (by omega)⟩
    obtain ⟨_, _, hE⟩ := stV_get (vs := T.map Prod.fst) (hs := ho) (i := k) (v := x) (h := hx) (by simp [hp]) hhx
    have hxN : x < n.toNat := (hTm x).1 (List.mem_map.2 ⟨(x, nr), List.mem_of_getElem? hp, rfl⟩)
    have hK : rowHP hx 3 1 nr.length (nV nr) ∈ kids rowN ho (T.map Prod.snd) := kids_mem (f := rowN) (l := nr) hhx (by simp [hp])
    refine know_kid (Ks := kids rowN ho (T.map Prod.snd)) (.tail _ (.tail _ (.tail _ (.tail _ (.tail _ (.tail _ (.tail _ (.head _)))))))) hK fun hhx1 _ => ?_
    obtain ⟨hf1, hf2⟩ := filter_take hp (fun p => kf p.1)
    have hkv := bV_get (l := ks) (k := x) (by omega)
    rw [hkfv] at hkv
    repeat' first
      | refine k_then ?_ | refine c_seq ?_ | refine c_region ?_ | refine s_nil ?_ | refine s_lss (by exact rfl) (by exact rfl) (by exact rfl) ?_ | refine s_idx (by exact rfl) (by exact rfl) (by exact rfl) (by assumption) (by first | assumption | omega) ?_ | refine s_ldk_row (by exact rfl) (by exact rfl) (by exact .tail _ (.head _)) (by decide) (by assumption) (by exact rfl) ?_ | refine o_alloc (by exact rfl) (fun b => ?_) | refine c_block ?_ | refine c_skip ?_ | (refine c_cond_p (by exact rfl) (fun h => ?_) (fun h => ?_) <;> try (exfalso; omega))
    refine o_stk_box (i := 0) (us := [.int .i64 (x : Int), hx]) (by exact rfl) (by exact rfl) (by exact rfl) (by exact rfl) (by exact rfl) (by
      intro u hu
      simp only [List.mem_cons, List.not_mem_nil, or_false] at hu
      rcases hu with rfl | rfl
      · rfl
      · exact hhx1.one) (by simp [Value.cells]) ?_
    repeat' first
      | refine k_then ?_ | refine c_seq ?_ | refine c_region ?_ | refine s_nil ?_ | refine s_move (by exact rfl) (by exact rfl) ?_ | refine s_fa (by exact rfl) (by exact rfl) ?_ | refine s_ld_box (by exact rfl) (by exact rfl) (by exact .head _) (by exact rfl) ?_ | refine s_idx (by exact rfl) (by exact rfl) (by exact rfl) (by assumption) (by first | assumption | omega) ?_ | refine s_ld_ro (by exact rfl) (by exact rfl) (by assumption) (by assumption) ?_
    cases hkx : kf x
    · simp only [hkx, Bool.false_eq_true, if_false, List.append_nil] at hf1
      rw [hkx] at hkv
      repeat' first
        | refine k_then ?_ | refine c_region ?_ | refine s_nil ?_ | refine s_move (by exact rfl) (by exact rfl) ?_ | refine s_add (by exact rfl) (by exact rfl) (by exact rfl) (by omega) ?_ | refine c_skip ?_ | refine k_blk ?_ | refine c_cond_f (by exact rfl) ?_
      refine c_round ⟨k + 1, hl, vl, tv, vt, vd, pool⟩ [1, 1, 1, 1, 1, 1, 1, 1, 1, 1, 1] (by dsimp only; rw [hf1]; exact rfl) ⟨rfl, rfl, rfl, rfl, rfl, rfl, rfl, trivial⟩ ⟨by dsimp only; omega, by dsimp only; rw [hf1]; exact ⟨hH, hpl, hTI⟩⟩ (by dsimp only; omega)
    · simp only [hkx, if_true] at hf1 hf2
      rw [hkx] at hkv
      generalize hlk : (T.take k).filter (fun p => kf p.1) = lk at *
      have hlkl : lk.length ≤ k := by
        rw [← hlk]
        exact Nat.le_trans (List.length_filter_le _ _) (by rw [List.length_take]; omega)
      have hOK := (hf2 ▸ hG : GoodT n.toNat near (nearS (tn es)) [] [] (lk ++ (x, nr) :: (T.drop (k + 1)).filter fun p => kf p.1)).at
      rw [List.append_nil] at hOK
      have hEl : ((lk.map Prod.fst).reverse).length = lk.length := by simp
      have htl := hTI.len
      have hfew := hOK.few
      repeat' first
        | refine c_seq ?_ | refine c_region ?_ | refine s_move (by exact rfl) (by exact rfl) ?_ | refine s_ldk_box (by exact rfl) (by exact rfl) (by exact .head _) (by exact rfl) (by exact rfl) ?_ | refine c_cond_t (by exact rfl) ?_
      refine o_mk [.agg #[.int .i64 (x : Int), hx]] (by exact rfl) (by exact rfl) rfl ?_ ?_ (by simp) fun va hva => ?_
      · simp [Value.cells]
      · simp
      skip
      refine o_append_row (i := 8) (by exact rfl) (by exact rfl) (by exact rfl) (by exact rfl) (by exact .head _) (by exact rfl) (by
        intro u hu
        simp only [List.flatMap_cons, List.flatMap_nil, List.append_nil, Value.cells, List.mem_cons, List.not_mem_nil, or_false] at hu
        rcases hu with rfl | rfl
        · rfl
        · exact hhx1.one) (by omega) fun vl2 hvl2 => ?_
      repeat' first
        | refine k_then ?_ | refine c_region ?_ | refine s_nil ?_ | refine s_assign (by exact rfl) (by exact rfl) ?_ | refine s_ld_box (by exact rfl) (by exact rfl) (by exact .tail _ (.tail _ (.head _))) (by exact rfl) ?_ | refine s_ldk_box (by exact rfl) (by exact rfl) (by exact .tail _ (.head _)) (by exact rfl) (by exact rfl) ?_
      refine c_pick [4, 4, 4, 2, 2, 2, 2, 2, 2, 2, 2] (by exact rfl) ?_
      refine s_lend (vs := [_, _]) [boxHP bs 137 [vn, vt, vd], rowHP vt 177 2 tv.length (tabV tv), rowHP vd 89 1 (pool.map fdV).length (pool.map fdV)] _ (by exact rfl) (by exact rfl) (by exact rfl) (fun w S h => eliminate_ok bs vn vt vd hx hn near x nr tv (tabsT near [] lk) (pool.map fdV) w S h.own hhx1 (h.ro_kid (.tail _ (.tail _ (.tail _ (.tail _ (.head _))))) hK) (h.ros (.tail _ (.tail _ (.tail _ (.tail _ (.tail _ (.head _)))))) hnl2.symm (.tail _ (.tail _ (.tail _ (.tail _ (.tail _ (.tail _ (.head _)))))))) (hTI.ro h (.tail _ (.tail _ (.tail _ (.tail _ (.head _))))) (.tail _ (.tail _ (.head _)))) (by omega) (by omega) hOK.asc hOK.vn (Nat.le_trans hOK.small (by omega)) (fun t ht => ⟨(hOK.tok t ht).1, (hOK.tok t ht).2.1, by have := (hOK.tok t ht).2.2; omega⟩) (fun C => by have := hOK.sum C; omega) (by omega) (by simp; omega)) ?_
      rintro _ _ ⟨vt2, vd2, vb, vi, bi, rfl⟩
      repeat' first
        | refine k_then ?_ | refine c_region ?_ | refine s_nil ?_ | refine s_move (by exact rfl) (by exact rfl) ?_ | refine s_add (by exact rfl) (by exact rfl) (by exact rfl) (by omega) ?_ | refine k_blk ?_
      refine c_pick [3, 3, 3, 0, 0, 0, 0, 0, 0, 0, 0, 0, 0, 0] (by exact rfl) ?_
      refine c_bundle [_, _, _] ?_
      rw [poolK_eq]
      refine c_pushk 5 (by exact rfl) ?_
      refine c_round ⟨k + 1, hl ++ [hx], vl2, restV x tv (tabsT near [] lk) ++ [(hx, vb)], vt2, vd2, pool ++ [(vb, bi, vi)]⟩ [3, 3, 0, 0, 0, 0, 0, 0, 0, 0, 0] ?_ ⟨rfl, rfl, rfl, rfl, rfl, rfl, rfl, trivial⟩ ⟨by dsimp only; omega, ?_⟩ (by dsimp only; omega)
      · dsimp only
        rw [hf1, dsT_snoc, List.zipWith_append (by rw [hpl, dsT_length]), List.map_append, List.map_append, List.map_singleton, List.map_singleton, stV_snoc (by rw [List.length_map]; exact hH.len.symm)]
        simp only [List.length_append, List.length_singleton]
        rfl
      · dsimp only
        rw [hf1]
        refine ⟨hH.step hp hhx, by simp [hpl], ?_⟩
        rw [dsT_snoc, tabsT_snoc]
        exact hTI.step hp hhx near (vb, bi, vi) _ (by rw [hpl, dsT_length])
  · have hkk : k = T.length := by omega
    rw [hkk, List.take_length] at hH hpl hTI
    rw [hkk, List.take_length]
    generalize hlk : T.filter (fun p => kf p.1) = lk at *
    have hlkl : lk.length ≤ T.length := by
      rw [← hlk]
      exact List.length_filter_le _ _
    have hEn : (lk.map Prod.fst).Nodup := by
      rw [← hlk]
      exact hTn.sublist (List.filter_sublist.map _)
    have hEm : ∀ u, u ∈ lk.map Prod.fst ↔ u < n.toNat ∧ kf u = true := fun u => by
      rw [← hTm, ← hlk]
      simp only [List.mem_map, List.mem_filter]
      constructor
      · rintro ⟨p, ⟨h1, h2⟩, rfl⟩; exact ⟨⟨p, h1, rfl⟩, h2⟩
      · rintro ⟨⟨p, h1, rfl⟩, h2⟩; exact ⟨p, ⟨h1, h2⟩, rfl⟩
    clear hkl hk hTI hlk
    refine know_row (v := vl) (.tail _ (.tail _ (.tail _ (.tail _ (.tail _ (.tail _ (.head _))))))) fun hvl _ => ?_
    refine know_row (v := vd) (.tail _ (.tail _ (.tail _ (.tail _ (.head _))))) fun hvd _ => ?_
    repeat' first
      | refine k_then ?_ | refine c_seq ?_ | refine c_region ?_ | refine s_nil ?_ | refine s_lss (by exact rfl) (by exact rfl) (by exact rfl) ?_ | refine c_exit ?_ | refine k_then_exit ?_ | refine k_blk_eq ?_ | (refine c_cond_p (by exact rfl) (fun h => ?_) (fun h => ?_) <;> try (exfalso; omega))
    refine o_makeMap (by exact rfl) fun bm => ?_
    repeat' first
      | refine o_alloc (by exact rfl) (fun b => ?_)
    revert b; intro b11
    refine o_st_box (i := 0) (by exact rfl) (by exact rfl) (by exact rfl) rfl (by simp [Value.cells]) ?_
    repeat' first
      | refine k_then ?_ | refine c_seq ?_ | refine c_region ?_ | refine s_nil ?_ | refine s_move (by exact rfl) (by exact rfl) ?_
    refine o_call (by exact rfl) (by exact rfl) (fun w h => Backward_ok vl w hvl.one) ?_
    rintro _ _ ⟨bq, rfl, rfl⟩
    repeat' first
      | refine k_then ?_ | refine s_nil ?_ | refine c_block ?_
    refine c_nil 3 1 ?_
    refine c_pick [2, 2, 12, 0, 1, 2, 3, 3, 4, 0, 2] (by exact rfl) ?_
    have hfl : (lk.map Prod.fst).length = lk.length := by simp
    have hpn := pickE_ind (nb := nearS (tn es)) (fun u v h => (nearS_lt hR h).2.2.2) (fun v h => (nearS_lt hR h).2.2.1 rfl) (lk.map Prod.fst).reverse (fun _ => false) ((List.reverse_perm _).nodup_iff.2 hEn)
    have hpsub := pickE_sub (nearS (tn es)) (lk.map Prod.fst).reverse (fun _ => false)
    have hpl2 : (pickE (nearS (tn es)) (lk.map Prod.fst).reverse (fun _ => false)).length ≤ lk.length := by have := hpsub.length_le; simpa using this
    refine c_range (ps := [48, 49]) 140 [.pointer (some ⟨bq, 0, none⟩)] [_, _, _, _, _, _, _, _, _] [boxHP bq 138 [vl], rowHP vl 142 2 lk.length (stV (lk.map Prod.fst) hl)] (lk.map Prod.fst).length (fun i => [.int .i64 (((lk.map Prod.fst).length : Int) - 1 - (i : Int)), .agg #[.int .i64 (((lk.map Prod.fst).getD ((lk.map Prod.fst).length - 1 - i) 0 : Nat) : Int), hl.getD ((lk.map Prod.fst).length - 1 - i) undef]]) (fun i M => ∃ out vo, i ≤ (lk.map Prod.fst).length ∧ pickE (nearS (tn es)) (lk.map Prod.fst).reverse (fun _ => false) = out ++ pickE (nearS (tn es)) ((lk.map Prod.fst).reverse.drop i) (fun u => decide (u ∈ out)) ∧ (∀ u ∈ out, u ∈ (lk.map Prod.fst).reverse.take i) ∧ M = [boxHP b11 62 [.map (some bm)], mapHP ekI Value.bool okI (.map (some bm)) (setN out), boxHP b4 28 [vo], rowHP vo 3 1 out.length (nV out), boxHP b5 133 [.pointer (some ⟨bs, 0, none⟩)], boxHP bs 137 [vn, vt, vd], rowHP vd 89 1 (pool.map fdV).length (pool.map fdV), starHP (List.zipWith poolK pool (dsT near [] lk)), starHP (kids rowN ho (T.map Prod.snd))]) (by exact rfl) (by exact rfl) (by exact rfl) (fun _ => rfl) (fun w S M h => back1_ok bq vl (lk.map Prod.fst) hl w S (h.rb_own (.head _)) (by rw [hfl]; exact hvl) (by rw [hfl]; exact hH.len) (h.ro_own (.tail _ (.head _))) (by omega)) ⟨[], .slice none 0 0, Nat.zero_le _, by simp, by simp, by exact rfl⟩ ?_ ?_
    · rintro i _ _ W S l D r m hi ⟨out, vo, hile, hpk, hot, rfl⟩ rfl hlent hst
      rw [hfl] at hi hile
      obtain ⟨j, hj⟩ : ∃ j, lk.length - 1 - i = j := ⟨_, rfl⟩
      have hjl : j < lk.length := by omega
      obtain ⟨⟨x, nr⟩, hp⟩ : ∃ p, lk[j]? = some p := ⟨_, List.getElem?_eq_getElem hjl⟩
      obtain ⟨hx, hhx⟩ : ∃ h, hl[j]? = some h := ⟨_, List.getElem?_eq_getElem (by rw [hH.len]; exact hjl)⟩
      obtain ⟨q, hq1, hq2⟩ := hH.at' j hx (x, nr) hhx hp
      have hlsp : lk = lk.take j ++ (x, nr) :: lk.drop (j + 1) := by
        obtain ⟨h1, h2⟩ := List.getElem?_eq_some_iff.1 hp
        conv => lhs; rw [← List.take_append_drop j lk, List.drop_eq_getElem_cons h1, h2]
      have hOK := (hlsp ▸ hG : GoodT n.toNat near (nearS (tn es)) [] [] (lk.take j ++ (x, nr) :: lk.drop (j + 1))).at
      rw [List.append_nil] at hOK
      have hds := dsT_get near (x, nr) (lk.drop (j + 1)) [] (lk.take j)
      rw [← hlsp, List.length_take, Nat.min_eq_left (by omega)] at hds
      dsimp only at hds
      have hEd : (lk.map Prod.fst).reverse.drop i = x :: ((lk.take j).map Prod.fst).reverse ∧ (lk.map Prod.fst).reverse.drop (i + 1) = ((lk.take j).map Prod.fst).reverse ∧ (lk.map Prod.fst).reverse.take (i + 1) = (lk.map Prod.fst).reverse.take i ++ [x] := by
        have e1 : (lk.map Prod.fst).reverse = ((lk.drop (j + 1)).map Prod.fst).reverse ++ x :: ((lk.take j).map Prod.fst).reverse := by
          conv => lhs; rw [hlsp]
          simp
        have e2 : (((lk.drop (j + 1)).map Prod.fst).reverse).length = i := by simp; omega
        rw [e1]
        have f1 : (((lk.drop (j + 1)).map Prod.fst).reverse ++ x :: ((lk.take j).map Prod.fst).reverse).drop i = x :: ((lk.take j).map Prod.fst).reverse := by rw [← e2, List.drop_left]
        refine ⟨f1, ?_, ?_⟩
        · rw [← List.drop_drop, f1]; rfl
        · have f2 : (((lk.drop (j + 1)).map Prod.fst).reverse ++ x :: ((lk.take j).map Prod.fst).reverse)[i]? = some x := by
            have := congrArg (fun l => l[0]?) f1
            simpa using this
          rw [List.take_add_one, f2]; rfl
      obtain ⟨hE1, hE2, hE3⟩ := hEd
      have hEn2 := (List.reverse_perm _).nodup_iff.2 hEn
      rw [← List.take_append_drop i (lk.map Prod.fst).reverse, hE1] at hEn2
      have hdis : ∀ u ∈ out, u ≠ x ∧ u ∉ ((lk.take j).map Prod.fst).reverse := fun u hu => by
        have h3 := (List.nodup_append.1 hEn2).2.2 u (hot u hu)
        exact ⟨h3 x (.head _), fun h4 => h3 u (.tail _ h4) rfl⟩
      have hxo : x ∉ out := fun h => (hdis x h).1 rfl
      have hol2 : out.length ≤ lk.length := by
        rw [hpk, List.length_append] at hpl2; omega
      have hinn := hOK.inn (fun u => decide (u ∈ out)) (fun e he => decide_eq_false fun h => (hdis e h).2 he) (decide_eq_false hxo)
      rw [hE1, pickE] at hpk
      obtain ⟨y, hy⟩ : ∃ y, pool[j]? = some y := ⟨_, List.getElem?_eq_getElem (by omega)⟩
      have hpk2 : poolK y (bestL (newT near x nr (tabsT near [] (lk.take j))), inL near x nr (tabsT near [] (lk.take j))) ∈ List.zipWith poolK pool (dsT near [] lk) := List.mem_of_getElem? (i := j) (by rw [List.getElem?_zipWith, hy, hds])
      have hgx : (lk.map Prod.fst).getD j 0 = x := by rw [List.getD_eq_getElem?_getD, List.getElem?_map, hp]; rfl
      have hgh : hl.getD j undef = hx := by rw [List.getD_eq_getElem?_getD, hhx]; rfl
      rw [hfl, show (lk.length : Int) - 1 - (i : Int) = (j : Int) by omega, hj, hgx, hgh]
      simp only [List.zip_cons_cons, List.zip_nil_left, List.reverse_cons, List.reverse_nil, List.nil_append, List.cons_append]
      have hK : rowHP hx 3 1 nr.length (nV nr) ∈ kids rowN ho (T.map Prod.snd) := kids_mem (f := rowN) (l := nr) hq1 (by simp [hq2])
      refine know_kid (Ks := kids rowN ho (T.map Prod.snd)) (.tail _ (.tail _ (.tail _ (.tail _ (.tail _ (.tail _ (.tail _ (.tail _ (.tail _ (.tail _ (.head _))))))))))) hK fun hhx1 _ => ?_
      repeat' first
        | refine k_then ?_ | refine s_nil ?_ | refine s_assign (by exact rfl) (by exact rfl) ?_ | refine o_alloc (by exact rfl) (fun b => ?_) | refine x_seq ?_ | refine x_region (by exact rfl) ?_
      revert b; intro b13
      refine o_stk_box (i := 0) (us := [.int .i64 (x : Int), hx]) (by exact rfl) (by exact rfl) (by exact rfl) (by exact rfl) (by exact rfl) (by
        intro u hu
        simp only [List.mem_cons, List.not_mem_nil, or_false] at hu
        rcases hu with rfl | rfl
        · rfl
        · exact hhx1.one) (by simp [Value.cells]) ?_
      repeat' first
        | refine k_then ?_ | refine s_nil ?_
      refine r_begin (j := 1) (by exact rfl) hst ?_
      refine c_pick [0, 2, 2, 4, 4, 4, 4, 4, 2, 2, 0, 0] (by exact rfl) ?_
      repeat' first
        | refine k_then ?_ | refine s_nil ?_ | refine s_move (by exact rfl) (by exact rfl) ?_ | refine s_assign (by exact rfl) (by exact rfl) ?_ | refine s_fa (by exact rfl) (by exact rfl) ?_ | refine s_ld_box (by exact rfl) (by exact rfl) (by exact .head _) (by exact rfl) ?_ | refine s_len (by exact rfl) (by exact rfl) (by assumption) ?_ | refine x_seq ?_ | refine x_region (by exact rfl) ?_ | refine x_block ?_
      have hnr39 : nr.length ≤ 39 := Nat.le_trans hOK.small (by omega)
      generalize hC : (fun u => decide (u ∈ out)) = C at *
      have hCu : ∀ u, C u = decide (u ∈ out) := fun u => by rw [← hC]
      refine x_loop (fun k : Nat => k ≤ nr.length) (fun k => [(4, .pointer (some ⟨b4, 0, none⟩)), (5, .pointer (some ⟨b5, 0, none⟩)), (11, .pointer (some ⟨b11, 0, none⟩)), (12, .int .i64 (j : Int)), (13, .pointer (some ⟨b13, 0, none⟩)), (14, .int .i64 (encL (nr.take k) C : Int)), (51, hx), (52, .int .i64 (nr.length : Int)), (53, .int .i64 (k : Int))]) (fun _ => _) (fun k => nr.length - k) 0 (List.replicate _ 0) (Nat.zero_le _) (pick_id _) ⟨rfl, rfl, rfl, rfl, rfl, rfl, rfl, rfl, rfl, trivial⟩ ?_
      intro k hk
      by_cases hkl : k < nr.length
      · obtain ⟨u, hu⟩ : ∃ u, nr[k]? = some u := ⟨_, List.getElem?_eq_getElem hkl⟩
        have hcu : (nV nr)[k * 1]? = some (.int .i64 (u : Int)) := by simp [nV, hu]
        have hlk2 := getK_setN out u
        have huN : u < n.toNat := (hOK.nrlt u (List.mem_of_getElem? hu)).1
        have htk : encL (nr.take (k + 1)) C = encL (nr.take k) C + (if C u then 2 ^ k else 0) := by
          rw [List.take_add_one, hu, Option.toList_some, encL_snoc, List.length_take, Nat.min_eq_left (by omega)]
        have hlt2 := encL_lt (nr.take k) C
        rw [List.length_take, Nat.min_eq_left (by omega)] at hlt2
        have h3 : 2 ^ k ≤ 2 ^ 39 := Nat.pow_le_pow_right (by decide) (by omega)
        repeat' first
          | refine k_then ?_ | refine s_nil ?_ | refine s_move (by exact rfl) (by exact rfl) ?_ | refine s_assign (by exact rfl) (by exact rfl) ?_ | refine s_ld_box (by exact rfl) (by exact rfl) (by exact .tail _ (.head _)) (by exact rfl) ?_ | refine s_lss (by exact rfl) (by exact rfl) (by exact rfl) ?_ | refine s_add (by exact rfl) (by exact rfl) (by exact rfl) (by omega) ?_ | refine s_look (by exact rfl) (by exact rfl) (by exact rfl) (by exact .tail _ (.tail _ (.head _))) (by exact rfl) (by assumption) (by first | exact ⟨by omega, by omega⟩ | exact ⟨⟨by omega, by omega⟩, by omega, by omega⟩) ?_ | refine s_idx (by exact rfl) (by exact rfl) (by exact rfl) (by assumption) (by first | assumption | omega) ?_ | refine s_ld_kid (by exact rfl) (by exact rfl) (by assumption) (by exact .tail _ (.tail _ (.tail _ (.tail _ (.tail _ (.tail _ (.tail _ (.head _)))))))) (by assumption) ?_ | refine k_blk ?_ | refine s_conv (by exact rfl) (by exact rfl) (by refine ⟨?_, ?_⟩ <;> simp [IntKind.min, IntKind.max, IntKind.signed, IntKind.bits] <;> omega) ?_ | refine x_seq ?_ | refine x_region (by exact rfl) ?_ | refine x_block ?_ | refine x_skip ?_ | (refine x_cond_p (by exact rfl) (fun h => ?_) (fun h => ?_) <;> try (exfalso; omega))
        · have hcu2 : C u = true := by rw [hCu]; exact decide_eq_true (by assumption)
          rw [hcu2, if_pos rfl] at htk
          refine s_shl ((2 ^ k : Nat) : Int) (by exact rfl) (by exact rfl) (by exact rfl) ⟨by omega, by omega⟩ (by rw [show (k : Int).toNat = k by omega, Int.one_mul]; norm_cast) ⟨by omega, by omega⟩ ?_
          skip
          refine s_or ((encL (nr.take k) C + 2 ^ k : Nat) : Int) (by exact rfl) (by exact rfl) (by exact rfl) ⟨by omega, by omega⟩ ⟨by omega, by omega⟩ (by
            rw [show ((encL (nr.take k) C : Nat) : Int).toNat = encL (nr.take k) C by omega, show ((2 ^ k : Nat) : Int).toNat = 2 ^ k by omega]
            have := Nat.two_pow_add_eq_or_of_lt hlt2 1
            rw [Nat.mul_one] at this
            rw [Nat.or_comm, ← this, Nat.add_comm]) ?_
          repeat' first
            | refine k_then ?_ | refine s_nil ?_ | refine s_move (by exact rfl) (by exact rfl) ?_ | refine s_assign (by exact rfl) (by exact rfl) ?_ | refine s_add (by exact rfl) (by exact rfl) (by exact rfl) (by omega) ?_ | refine k_blk ?_ | refine x_region (by exact rfl) ?_
          refine c_round (k + 1) (List.replicate _ 0) (pick_id _) ⟨rfl, rfl, rfl, rfl, rfl, by rw [htk]; rfl, rfl, rfl, rfl, trivial⟩ (by omega) (by omega)
        · have hcu2 : C u = false := by rw [hCu]; exact decide_eq_false (by assumption)
          rw [hcu2, if_neg (by simp), Nat.add_zero] at htk
          refine c_round (k + 1) (List.replicate _ 0) (pick_id _) ⟨rfl, rfl, rfl, rfl, rfl, by rw [htk]; rfl, rfl, rfl, rfl, trivial⟩ (by omega) (by omega)
      · rw [List.take_of_length_le (by omega)]
        have hfd : (pool.map fdV)[j * 1]? = some (fdV y) := by simp [hy]
        have hbl : (inL near x nr (tabsT near [] (lk.take j))).length = 2 ^ nr.length := by simp [inL]
        have henc := encL_lt nr C
        have hdl : decL nr (encL nr C) = resC nr C := by
          funext u
          by_cases hu : u ∈ nr
          · rw [decL_enc hu, resC, decide_eq_true hu, Bool.true_and]
          · rw [decL, resC, decide_eq_false hu, Bool.false_and, Bool.false_and]
        have hgt : (inL near x nr (tabsT near [] (lk.take j))).getD (encL nr C) false = inB (nearS (tn es)) x ((lk.take j).map Prod.fst).reverse C := by
          rw [← hinn, ← hdl, inL, List.getD_eq_getElem?_getD, List.getElem?_map, List.getElem?_range henc]; rfl
        have hpl3 : pool.length = lk.length := hpl
        have hvd3 : Shp vd pool.length := by simpa using hvd
        refine know_kid2 (v := y.2.2) (Ks := List.zipWith poolK pool (dsT near [] lk)) (.tail _ (.tail _ (.tail _ (.tail _ (.tail _ (.tail _ (.head _))))))) hpk2 (.tail _ (.tail _ (.head _))) fun hsy => ?_
        repeat' first
          | refine k_then ?_ | refine s_nil ?_ | refine s_move (by exact rfl) (by exact rfl) ?_ | refine s_fa (by exact rfl) (by exact rfl) ?_ | refine s_ld_box (by exact rfl) (by exact rfl) (by first | exact .tail _ (.tail _ (.tail _ (.head _))) | exact .tail _ (.tail _ (.tail _ (.tail _ (.head _))))) (by exact rfl) ?_ | refine s_lss (by exact rfl) (by exact rfl) (by exact rfl) ?_ | refine s_idx (by exact rfl) (by exact rfl) (by exact rfl) (by assumption) (by first | assumption | omega) ?_ | refine s_ld_row (by exact rfl) (by exact rfl) (by exact .tail _ (.tail _ (.tail _ (.tail _ (.tail _ (.head _)))))) (by assumption) ?_ | refine k_then_exit ?_ | refine k_blk_eq ?_ | refine s_nilc (by exact rfl) (by exact rfl) ?_ | refine x_seq ?_ | refine x_region (by exact rfl) ?_ | refine x_exit ?_ | (refine x_cond_p (by exact rfl) (fun h => ?_) (fun h => ?_) <;> try (exfalso; omega))
        refine s_callv (pre := []) (vs := [.int .i64 (encL nr C : Int)]) (caps := [.pointer (some ⟨y.2.1, 0, none⟩)]) (by exact rfl) (by exact rfl) (by exact rfl) (fun w h => decided_ok y.2.1 y.2.2 (inL near x nr (tabsT near [] (lk.take j))) (encL nr C) w (rb_kid2 h (.tail _ (.tail _ (.tail _ (.tail _ (.tail _ (.tail _ (.head _))))))) hpk2 (.tail _ (.head _))) hsy (ro_kid2 h (.tail _ (.tail _ (.tail _ (.tail _ (.tail _ (.tail _ (.head _))))))) hpk2 (.tail _ (.tail _ (.head _)))) (by rw [hbl]; exact henc)) ?_
        rw [hgt]
        have hxN : x < n.toNat := hOK.lt
        have hS1 : S1 x C = fun u => decide (u ∈ out ++ [x]) := by
          funext u
          rw [S1, hCu, Bool.eq_iff_iff]
          simp
        have hot2 : ∀ u ∈ out, u ∈ (lk.map Prod.fst).reverse.take (i + 1) := fun u hu => by
          rw [hE3]; exact List.mem_append_left _ (hot u hu)
        cases hb : inB (nearS (tn es)) x ((lk.take j).map Prod.fst).reverse C
        · rw [hb, if_neg (by simp)] at hpk
          repeat' first
            | refine k_then ?_ | refine s_nil ?_ | refine k_blk ?_ | refine x_skip ?_ | refine x_cond_f (by exact rfl) ?_
          refine r_end (j := 10) [10, 10, 1, 1, 6, 6, 1, 1, 1, 1, 1] rfl rfl fun W2 h2 => ⟨rfl, ?_⟩
          obtain ⟨S2, hm2, hl2⟩ := h2
          refine ⟨_, S2, ⟨_, ⟨out, vo, by omega, by rw [hE2, hC]; exact hpk, hot2, rfl⟩, rfl⟩, hm2, hl2⟩
        · rw [hb, if_pos rfl, hS1] at hpk
          repeat' first
            | refine k_then ?_ | refine s_nil ?_ | refine s_fa (by exact rfl) (by exact rfl) ?_ | refine s_ld_box (by exact rfl) (by exact rfl) (by first | exact .head _ | exact .tail _ (.head _)) (by exact rfl) ?_ | refine x_seq ?_ | refine x_region (by exact rfl) ?_ | refine x_cond_t (by exact rfl) ?_
          refine o_mapup (x : Int) true (by exact rfl) (by exact rfl) (by exact rfl) (i := 2) (by exact rfl) rfl rfl ⟨by omega, by omega⟩ ?_
          rw [putK_setN hxo]
          repeat' first
            | refine k_then ?_ | refine s_nil ?_ | refine s_fa (by exact rfl) (by exact rfl) ?_ | refine s_ld_box (by exact rfl) (by exact rfl) (by first | exact .head _ | exact .tail _ (.tail _ (.tail _ (.tail _ (.tail _ (.tail _ (.tail _ (.tail _ (.head _))))))))) (by exact rfl) ?_ | refine x_region (by exact rfl) ?_
          refine o_mk [.int .i64 (x : Int)] (by exact rfl) (by exact rfl) rfl ?_ ?_ (by simp) fun va hva => ?_
          · simp [Value.cells]
          · simp
          skip
          refine o_append_row (i := 10) (by exact rfl) (by exact rfl) (by exact rfl) (by exact rfl) (by exact .head _) (by exact rfl) (by simp [Value.cells, Value.oneCell']) (by omega) fun vo2 hvo2 => ?_
          skip
          refine o_st_box (i := 9) (by exact rfl) (by exact rfl) (by exact rfl) hvo2.one (by simp) ?_
          repeat' first
            | refine s_nil ?_ | refine k_blk ?_
          refine r_end (j := 11) [11, 11, 2, 2, 7, 7, 2, 2, 2, 2, 2] rfl rfl fun W2 h2 => ⟨rfl, ?_⟩
          obtain ⟨S2, hm2, hl2⟩ := h2
          refine ⟨_, S2, ⟨_, ⟨out ++ [x], vo2, by omega, by rw [hE2, hpk, List.append_assoc]; rfl, ?_, rfl⟩, rfl⟩, hm2, ?_⟩
          · intro u hu
            rcases List.mem_append.1 hu with hu | hu
            · exact hot2 u hu
            · obtain rfl : u = x := by simpa using hu
              rw [hE3]; simp
          · rw [show nV (out ++ [x]) = nV out ++ [.int .i64 (x : Int)] by simp [nV], List.length_append, List.length_singleton]
            exact hl2
    · rintro _ l D r ⟨out, vo, _, hpk, hot, rfl⟩
      rw [List.drop_of_length_le (by simp), pickE, List.append_nil] at hpk
      refine know_row (v := vo) (.tail _ (.tail _ (.tail _ (.tail _ (.tail _ (.head _)))))) fun hvo _ => ?_
      refine m_blk ?_
      refine m_then ?_
      refine m_seq ?_
      refine m_region (by exact rfl) ?_
      repeat' first
        | refine s_ld_box (by exact rfl) (by exact rfl) (by exact .tail _ (.tail _ (.tail _ (.tail _ (.head _))))) (by exact rfl) ?_
      refine o_st_box (i := 4) (by exact rfl) (by exact rfl) (by exact rfl) hvo.one (by simp) ?_
      repeat' first
        | refine s_nil ?_
      refine m_then ?_
      refine m_ret ?_
      refine m_end (j := 1) rfl ?_
      refine retL [.cell 4 28] [vo] [5] rfl ⟨res_cell (off := 0) (tb := 28) (cs := [vo]) rfl (.tail _ (.tail _ (.tail _ (.tail _ (.head _))))) rfl, trivial⟩ (by exact rfl) ⟨out, rfl, ?_⟩
      rw [hpk] at hpn hpsub
      refine ⟨hpn, fun u hu => (hEm u).1 (List.mem_reverse.1 (hpsub.mem hu)), fun Y hY hYm => ?_⟩
      rw [← hpk, pickE_length]
      exact val_upper hY fun u hu => List.mem_reverse.2 ((hEm u).2 (hYm u hu))
end Go.Proofs.YtpajjnkmaebhcabGreat
end
section
namespace Go.Proofs.YtpajjnkmaebhcabGreat
open Go.RowKit Go.Sl Fil
set_option maxRecDepth 100000
set_option maxHeartbeats 8000000
set_option linter.unusedVariables false
set_option linter.unusedSimpArgs false
attribute [local irreducible] Code.wp wpList bodyPost wpQuiet Exit.then Exit.inBlock Post wpAnyH wpOp
end Go.Proofs.YtpajjnkmaebhcabGreat
end
section
namespace Go.Proofs.YtpajjnkmaebhcabGreat
open Go.RowKit Go.Sl Fil
set_option maxRecDepth 100000
set_option maxHeartbeats 8000000
set_option linter.unusedVariables false
set_option linter.unusedSimpArgs false
attribute [local irreducible] Code.wp wpList bodyPost wpQuiet Exit.then Exit.inBlock Post wpAnyH wpOp
theorem Labels_ok (n : Int) (v : Value) (es : List E) (w : World) (hs : Shp v es.length) (hr : RO w No v (esV es)) (hR : RightG n es) :
    Calls Tryz.prog 90 #[.agg #[.int .i64 n, v]] w (Post w No fun r L' => L' = [rowHP r 3 1 n.toNat (nV (rounds relaxL (tn es) n.toNat (List.range n.toNat)))]) := by
  have hm : es.length < 4611686018427387904 := by have := hR.many; omega
  have hlo := hR.lo
  have hhi := hR.hi
  refine enter0 (vs := [_]) Tryz.func90 rfl Tryz.ntmps90 rfl ?_
  repeat' first
    | refine k_then ?_ | refine c_seq ?_ | refine c_region ?_ | refine s_nil ?_ | refine s_assign (by exact rfl) (by exact rfl) ?_ | refine s_fa (by exact rfl) (by exact rfl) ?_ | refine s_ld_box (by exact rfl) (by exact rfl) (by exact .head _) (by exact rfl) ?_ | refine o_box (by exact rfl) (by exact rfl) (fun b => ?_)
  refine o_make (by exact rfl) (by exact rfl) (by exact rfl) (by omega) (by omega) fun vl hvl => ?_
  rw [made1 (z := .int .i64 0) rfl]
  repeat' first
    | refine k_then ?_ | refine c_seq ?_ | refine c_region ?_ | refine s_nil ?_ | refine s_assign (by exact rfl) (by exact rfl) ?_ | refine c_block ?_
  generalize hN : n.toNat = N at *
  have hnN : n = (N : Int) := by omega
  subst hnN
  refine c_loop (fun i : Nat => i ≤ N) (fun i => [(1, .pointer (some ⟨b, 0, none⟩)), (3, vl), (4, .int .i64 (i : Int))]) (fun i => [rowHP vl 3 1 N (nV (fillL id 0 N i)), boxHP b 24 [.int .i64 (N : Int), v]]) (fun i => N - i) 0 [0, 0] (Nat.zero_le _) (by rw [fill_zero]; simp only [nV, List.map_replicate]; rfl) ⟨rfl, rfl, rfl, trivial⟩ ?_
  intro i hi
  by_cases hil : i < N
  · repeat' first
      | refine k_then ?_ | refine c_seq ?_ | refine c_region ?_ | refine s_nil ?_ | refine s_move (by exact rfl) (by exact rfl) ?_ | refine s_fa (by exact rfl) (by exact rfl) ?_ | refine s_ld_box (by exact rfl) (by exact rfl) (by exact .tail _ (.head _)) (by exact rfl) ?_ | refine s_lss (by exact rfl) (by exact rfl) (by exact rfl) ?_ | refine s_idx (by exact rfl) (by exact rfl) (by exact rfl) (by assumption) (by first | assumption | omega) ?_ | refine c_block ?_ | refine c_skip ?_ | (refine c_cond_p (by exact rfl) (fun h => ?_) (fun h => ?_) <;> try (exfalso; omega))
    refine o_st_row (i := 0) (by exact rfl) (by exact rfl) (by exact rfl) rfl (by omega) ?_
    repeat' first
      | refine k_then ?_ | refine c_region ?_ | refine s_nil ?_ | refine s_move (by exact rfl) (by exact rfl) ?_ | refine s_assign (by exact rfl) (by exact rfl) ?_ | refine s_add (by exact rfl) (by exact rfl) (by exact rfl) (by omega) ?_ | refine k_blk ?_
    refine c_round (i + 1) [0, 0] (by rw [nV_set, ← fill_set id 0 hil]; rfl) (by exact ⟨rfl, rfl, rfl, trivial⟩) (by omega) (by omega)
  · repeat' first
      | refine k_then ?_ | refine c_seq ?_ | refine c_region ?_ | refine s_nil ?_ | refine s_move (by exact rfl) (by exact rfl) ?_ | refine s_assign (by exact rfl) (by exact rfl) ?_ | refine s_fa (by exact rfl) (by exact rfl) ?_ | refine s_ld_box (by exact rfl) (by exact rfl) (by exact .tail _ (.head _)) (by exact rfl) ?_ | refine s_lss (by exact rfl) (by exact rfl) (by exact rfl) ?_ | refine c_block ?_ | refine c_exit ?_ | refine k_then_exit ?_ | refine k_blk_eq ?_ | (refine c_cond_p (by exact rfl) (fun h => ?_) (fun h => ?_) <;> try (exfalso; omega))
    obtain rfl : i = N := by omega
    have hl0 : (List.range i).length = i := by simp
    have hlen : ∀ (r : List (Nat × Nat)) (c : List Nat), (r.foldl relaxL c).length = c.length := by
      intro r
      induction r with
      | nil => intro c; rfl
      | cons e r ih => intro c; rw [List.foldl_cons, ih]; simp [relaxL]
    have hrl : ∀ k, (rounds relaxL (tn es) k (List.range i)).length = i := by
      intro k
      induction k with
      | zero => simp [rounds]
      | succ k ih => rw [rounds, hlen, ih]
    refine c_loop (fun q : Nat => q ≤ i) (fun q => [(1, .pointer (some ⟨b, 0, none⟩)), (3, vl), (5, .int .i64 (q : Int))]) (fun q => [rowHP vl 3 1 i (nV (rounds relaxL (tn es) q (List.range i))), boxHP b 24 [.int .i64 (i : Int), v]]) (fun q => i - q) 0 [0, 0] (Nat.zero_le _) (by rw [fillL_all, List.map_id]; rfl) ⟨rfl, rfl, rfl, trivial⟩ ?_
    intro q hq
    by_cases hql : q < i
    · repeat' first
        | refine k_then ?_ | refine c_seq ?_ | refine c_region ?_ | refine s_nil ?_ | refine s_move (by exact rfl) (by exact rfl) ?_ | refine s_assign (by exact rfl) (by exact rfl) ?_ | refine s_fa (by exact rfl) (by exact rfl) ?_ | refine s_ld_box (by exact rfl) (by exact rfl) (by exact .tail _ (.head _)) (by exact rfl) ?_ | refine s_lss (by exact rfl) (by exact rfl) (by exact rfl) ?_ | refine c_block ?_ | refine c_skip ?_ | (refine c_cond_p (by exact rfl) (fun h => ?_) (fun h => ?_) <;> try (exfalso; omega))
      generalize hc0 : rounds relaxL (tn es) q (List.range i) = c0 at *
      have hc0l : c0.length = i := by rw [← hc0]; exact hrl q
      refine c_loop (fun k : Nat => k ≤ es.length) (fun k => [(1, .pointer (some ⟨b, 0, none⟩)), (3, vl), (5, .int .i64 (q : Int)), (6, .int .i64 (k : Int))]) (fun k => [rowHP vl 3 1 i (nV ((tn (es.take k)).foldl relaxL c0)), boxHP b 24 [.int .i64 (i : Int), v]]) (fun k => es.length - k) 0 [0, 0] (Nat.zero_le _) (by exact rfl) ⟨rfl, rfl, rfl, rfl, trivial⟩ ?_
      intro k hk
      by_cases hkl : k < es.length
      · obtain ⟨e, he⟩ : ∃ e, es[k]? = some e := ⟨_, List.getElem?_eq_getElem hkl⟩
        obtain ⟨hE0, hE1, hE2⟩ := esV_get he
        obtain ⟨q1, q2, q3, -, -⟩ := hR.ok e (List.mem_of_getElem? he)
        have htk := tn_take he
        generalize hc : (tn (es.take k)).foldl relaxL c0 = c at *
        have hcl : c.length = i := by rw [← hc, hlen]; exact hc0l
        have hu := nV_get (l := c) (k := e.1.toNat) (by omega)
        have hv := nV_get (l := c) (k := e.2.1.toNat) (by omega)
        repeat' first
          | refine k_then ?_ | refine c_seq ?_ | refine c_region ?_ | refine s_nil ?_ | refine s_move (by exact rfl) (by exact rfl) ?_ | refine s_fa (by exact rfl) (by exact rfl) ?_ | refine s_ld_box (by exact rfl) (by exact rfl) (by exact .tail _ (.head _)) (by exact rfl) ?_ | refine s_lss (by exact rfl) (by exact rfl) (by exact rfl) ?_ | refine s_len (by exact rfl) (by exact rfl) (by assumption) ?_ | refine c_block ?_ | refine c_skip ?_ | (refine c_cond_p (by exact rfl) (fun h => ?_) (fun h => ?_) <;> try (exfalso; omega))
        refine p_begin0 [(0, true), (1, true), (2, true), (3, true), (4, true), (5, true), (6, true), (7, true), (8, true), (9, true), (10, true), (11, true), (12, true), (13, true), (14, true), (15, true), (16, true), (17, true), (18, true), (19, true)] (by kernel_rfl) ?_
        repeat' first
          | refine p_nil ?_
          | (refine p_at (by exact rfl) ?_
             first
              | refine t_move (by exact rfl) (by exact rfl) (by exact fun _ h => h) ?_ | refine t_assign (by exact rfl) (by exact rfl) (by exact fun _ h => h) ?_ | refine t_fa (by exact rfl) (by exact rfl) (by exact fun _ h => h) ?_ | refine t_ld_box (by exact rfl) (by exact rfl) (by exact .tail _ (.head _)) (by exact rfl) (by exact fun _ h => h) ?_ | refine t_min (by exact rfl) (by exact rfl) (by exact rfl) (by exact fun _ h => h) ?_ | refine t_idx (by exact rfl) (by exact rfl) (by exact rfl) (by assumption) (by first | assumption | omega) (by exact fun _ h => h) ?_ | refine t_idxi (by exact rfl) (by exact rfl) (by exact rfl) (by assumption) (by first | assumption | omega) (by exact fun _ h => h) ?_ | refine t_fap (by exact rfl) (by exact rfl) (by assumption) (by omega) (by exact fun _ h => h) ?_ | refine t_ld_ro (by exact rfl) (by exact rfl) (by assumption) (by assumption) (by exact fun _ h => h) ?_ | refine t_ld_row (by exact rfl) (by exact rfl) (by exact .head _) (by assumption) (by exact fun _ h => h) ?_)
        repeat' first
          | refine k_then ?_ | refine c_seq ?_ | refine c_region ?_ | refine s_move (by exact rfl) (by exact rfl) ?_ | refine s_fa (by exact rfl) (by exact rfl) ?_ | refine s_ld_box (by exact rfl) (by exact rfl) (by exact .tail _ (.head _)) (by exact rfl) ?_ | refine s_idx (by exact rfl) (by exact rfl) (by exact rfl) (by assumption) (by first | assumption | omega) ?_ | refine s_idxi (by exact rfl) (by exact rfl) (by exact rfl) (by assumption) (by first | assumption | omega) ?_ | refine s_fap (by exact rfl) (by exact rfl) (by assumption) (by omega) ?_ | refine s_ld_ro (by exact rfl) (by exact rfl) (by assumption) (by assumption) ?_
        rw [show min ((c.getD e.1.toNat 0 : Nat) : Int) ((c.getD e.2.1.toNat 0 : Nat) : Int) = ((min (c.getD e.1.toNat 0) (c.getD e.2.1.toNat 0) : Nat) : Int) from by omega]
        refine o_st_row (i := 0) (by exact rfl) (by exact rfl) (by exact rfl) rfl (by omega) ?_
        repeat' first
          | refine k_then ?_ | refine c_region ?_ | refine s_nil ?_ | refine s_move (by exact rfl) (by exact rfl) ?_ | refine s_fa (by exact rfl) (by exact rfl) ?_ | refine s_ld_box (by exact rfl) (by exact rfl) (by exact .tail _ (.head _)) (by exact rfl) ?_ | refine s_idx (by exact rfl) (by exact rfl) (by exact rfl) (by assumption) (by first | assumption | omega) ?_ | refine s_idxi (by exact rfl) (by exact rfl) (by exact rfl) (by assumption) (by first | assumption | omega) ?_ | refine s_fap (by exact rfl) (by exact rfl) (by assumption) (by omega) ?_ | refine s_ld_ro (by exact rfl) (by exact rfl) (by assumption) (by assumption) ?_
        refine o_st_row (i := 0) (by exact rfl) (by exact rfl) (by exact rfl) rfl (by omega) ?_
        repeat' first
          | refine k_then ?_ | refine c_region ?_ | refine s_nil ?_ | refine s_move (by exact rfl) (by exact rfl) ?_ | refine s_assign (by exact rfl) (by exact rfl) ?_ | refine s_add (by exact rfl) (by exact rfl) (by exact rfl) (by omega) ?_ | refine k_blk ?_
        refine c_round (k + 1) [0, 0] ?_ (by exact ⟨rfl, rfl, rfl, rfl, trivial⟩) (by omega) (by omega)
        rw [htk, List.foldl_append, hc, nV_set, nV_set]
        rfl
      · repeat' first
          | refine k_then ?_ | refine c_seq ?_ | refine c_region ?_ | refine s_nil ?_ | refine s_move (by exact rfl) (by exact rfl) ?_ | refine s_assign (by exact rfl) (by exact rfl) ?_ | refine s_fa (by exact rfl) (by exact rfl) ?_ | refine s_ld_box (by exact rfl) (by exact rfl) (by exact .tail _ (.head _)) (by exact rfl) ?_ | refine s_lss (by exact rfl) (by exact rfl) (by exact rfl) ?_ | refine s_add (by exact rfl) (by exact rfl) (by exact rfl) (by omega) ?_ | refine s_len (by exact rfl) (by exact rfl) (by assumption) ?_ | refine c_exit ?_ | refine k_then_exit ?_ | refine k_blk ?_ | refine k_blk_eq ?_ | (refine c_cond_p (by exact rfl) (fun h => ?_) (fun h => ?_) <;> try (exfalso; omega))
        obtain rfl : k = es.length := by omega
        refine c_round (q + 1) [0, 0] (by rw [List.take_length, rounds, hc0]; rfl) (by exact ⟨rfl, rfl, rfl, trivial⟩) (by omega) (by omega)
    · repeat' first
        | refine k_then ?_ | refine c_seq ?_ | refine c_region ?_ | refine s_nil ?_ | refine s_move (by exact rfl) (by exact rfl) ?_ | refine s_assign (by exact rfl) (by exact rfl) ?_ | refine s_fa (by exact rfl) (by exact rfl) ?_ | refine s_ld_box (by exact rfl) (by exact rfl) (by exact .tail _ (.head _)) (by exact rfl) ?_ | refine s_lss (by exact rfl) (by exact rfl) (by exact rfl) ?_ | refine c_exit ?_ | refine c_ret ?_ | refine k_then_exit ?_ | refine k_blk_eq ?_ | (refine c_cond_p (by exact rfl) (fun h => ?_) (fun h => ?_) <;> try (exfalso; omega))
      obtain rfl : q = i := by omega
      refine ret1 [0] rfl rfl rfl rfl
end Go.Proofs.YtpajjnkmaebhcabGreat
end
section
namespace Go.Proofs.YtpajjnkmaebhcabGreat
open Go.RowKit Go.Sl Fil
set_option maxRecDepth 100000
set_option maxHeartbeats 8000000
set_option linter.unusedVariables false
set_option linter.unusedSimpArgs false
attribute [local irreducible] Code.wp wpList bodyPost wpQuiet Exit.then Exit.inBlock Post wpAnyH wpOp
theorem refComps_ok (n : Int) (v : Value) (es : List E) (o lab : Nat → Nat) (w : World) (hs : Shp v es.length) (hr : RO w No v (esV es)) (hR : RightG n es) (hLev : Lev n.toNat (nb (tn es)) o lab) :
    Calls Tryz.prog 69 #[.agg #[.int .i64 n, v]] w (Post w No fun r L' => ∃ hr : List Value, hr.length = (compsS n.toNat lab).length ∧ L' = [rowHP r 28 1 (compsS n.toNat lab).length hr, starHP (kids rowN hr (compsS n.toNat lab))]) := by
  have hlo := hR.lo
  have hhi := hR.hi
  refine enter0 (vs := [_]) Tryz.func69 rfl Tryz.ntmps69 rfl ?_
  repeat' first
    | refine k_then ?_ | refine c_seq ?_ | refine c_region ?_ | refine s_nil ?_ | refine s_assign (by exact rfl) (by exact rfl) ?_ | refine s_ldk_box (by exact rfl) (by exact rfl) (by exact .head _) (by exact rfl) (by exact rfl) ?_ | refine o_box (by exact rfl) (by exact rfl) (fun b => ?_)
  refine o_call (by exact rfl) (by exact rfl) (fun w h => Labels_ok n v es w hs (ro_old h hr) hR) ?_
  rintro vl _ rfl
  refine know_row (v := vl) (.head _) fun hvl _ => ?_
  rw [ref_labels hR.good hLev]
  repeat' first
    | refine k_then ?_ | refine c_seq ?_ | refine c_region ?_ | refine s_nil ?_ | refine s_assign (by exact rfl) (by exact rfl) ?_ | refine c_block ?_
  have hle := hLev.le
  generalize hN : n.toNat = N at *
  have hnN : n = (N : Int) := by omega
  subst hnN
  refine c_nil 28 1 ?_
  refine c_star0 ?_
  refine c_loop (fun x : Nat × Value × List Value => x.1 ≤ N ∧ x.2.2.length = (compsI N x.1 lab).length) (fun x => [(1, .pointer (some ⟨b, 0, none⟩)), (3, vl), (4, x.2.1), (5, .int .i64 (x.1 : Int))])
    (fun x => [rowHP x.2.1 28 1 (compsI N x.1 lab).length x.2.2, starHP (kids rowN x.2.2 (compsI N x.1 lab)), rowHP vl 3 1 N (nV ((List.range N).map lab)), boxHP b 24 [.int .i64 (N : Int), v]]) (fun x => N - x.1) (0, .slice none 0 0, []) [1, 0, 0, 0] ⟨Nat.zero_le _, rfl⟩ (by exact rfl) ⟨rfl, rfl, rfl, rfl, trivial⟩ ?_
  rintro ⟨i, vo, ho⟩ ⟨hi, hho⟩
  dsimp only at hi hho ⊢
  by_cases hil : i < N
  · have hli := nV_get (l := (List.range N).map lab) (k := i) (by simpa using hil)
    rw [show ((List.range N).map lab).getD i 0 = lab i from by simp [hil]] at hli
    by_cases hlab : lab i = i
    · have hadd := compsI_add (N := N) hlab
      have hcl := compsI_length N i lab
      generalize hcs : compsI N i lab = cs at *
      repeat' first
        | refine k_then ?_ | refine c_seq ?_ | refine c_region ?_ | refine s_nil ?_ | refine s_move (by exact rfl) (by exact rfl) ?_ | refine s_assign (by exact rfl) (by exact rfl) ?_ | refine s_fa (by exact rfl) (by exact rfl) ?_ | refine s_ld_box (by exact rfl) (by exact rfl) (by exact .tail _ (.tail _ (.tail _ (.head _)))) (by exact rfl) ?_ | refine s_lss (by exact rfl) (by exact rfl) (by exact rfl) ?_ | refine s_neq (by exact rfl) (by exact rfl) (by exact rfl) ?_ | refine s_idx (by exact rfl) (by exact rfl) (by exact rfl) (by assumption) (by first | assumption | omega) ?_ | refine s_ld_row (by exact rfl) (by exact rfl) (by exact .tail _ (.tail _ (.head _))) (by assumption) ?_ | refine c_block ?_ | refine c_skip ?_ | (refine c_cond_p (by exact rfl) (fun h => ?_) (fun h => ?_) <;> try (exfalso; omega))
      refine c_nil 3 1 ?_
      refine c_loop (fun x : Nat × Value => i ≤ x.1 ∧ x.1 ≤ N) (fun x => [(1, .pointer (some ⟨b, 0, none⟩)), (3, vl), (4, vo), (5, .int .i64 (i : Int)), (6, x.2), (7, .int .i64 (x.1 : Int))])
        (fun x => [rowHP x.2 3 1 ((List.range x.1).filter fun u => lab u == i).length (nV ((List.range x.1).filter fun u => lab u == i)), rowHP vo 28 1 cs.length ho, starHP (kids rowN ho cs), rowHP vl 3 1 N (nV ((List.range N).map lab)), boxHP b 24 [.int .i64 (N : Int), v]]) (fun x => N - x.1) (i, .slice none 0 0) [0, 0, 0, 0, 0] ⟨Nat.le_refl _, hi⟩ (by dsimp only; rw [row_low fun u hu => hle u (by omega)]; rfl) ⟨rfl, rfl, rfl, rfl, rfl, rfl, trivial⟩ ?_
      rintro ⟨u, vc⟩ ⟨hiu, hu⟩
      dsimp only at hiu hu ⊢
      by_cases hul : u < N
      · have hlu := nV_get (l := (List.range N).map lab) (k := u) (by simpa using hul)
        rw [show ((List.range N).map lab).getD u 0 = lab u from by simp [hul]] at hlu
        have hrl := row_length u i lab
        by_cases hlabu : lab u = i
        · have hra := row_add (u := u) hlabu
          generalize hrow : (List.range u).filter (fun u => lab u == i) = row at *
          repeat' first
            | refine k_then ?_ | refine c_seq ?_ | refine c_region ?_ | refine s_nil ?_ | refine s_move (by exact rfl) (by exact rfl) ?_ | refine s_fa (by exact rfl) (by exact rfl) ?_ | refine s_ld_box (by exact rfl) (by exact rfl) (by exact .tail _ (.tail _ (.tail _ (.tail _ (.head _))))) (by exact rfl) ?_ | refine s_lss (by exact rfl) (by exact rfl) (by exact rfl) ?_ | refine s_eql (by exact rfl) (by exact rfl) (by exact rfl) ?_ | refine s_idx (by exact rfl) (by exact rfl) (by exact rfl) (by assumption) (by first | assumption | omega) ?_ | refine s_ld_row (by exact rfl) (by exact rfl) (by exact .tail _ (.tail _ (.tail _ (.head _)))) (by assumption) ?_ | refine c_block ?_ | refine c_skip ?_ | (refine c_cond_p (by exact rfl) (fun h => ?_) (fun h => ?_) <;> try (exfalso; omega))
          refine o_mk [.int .i64 (u : Int)] (by exact rfl) (by exact rfl) rfl ?_ ?_ (by simp) fun vt hvt => ?_
          · simp [Value.cells]
          · simp
          skip
          refine o_append_row (i := 1) (by exact rfl) (by exact rfl) (by exact rfl) (by exact rfl) (by exact .head _) (by exact rfl) (by simp [Value.cells, Value.oneCell']) ?_ fun vd hvd => ?_
          · omega
          repeat' first
            | refine k_then ?_ | refine c_region ?_ | refine s_nil ?_ | refine s_move (by exact rfl) (by exact rfl) ?_ | refine s_assign (by exact rfl) (by exact rfl) ?_ | refine s_add (by exact rfl) (by exact rfl) (by exact rfl) (by omega) ?_ | refine k_blk ?_
          refine c_round (u + 1, vd) [1, 1, 1, 1, 1] ?_ (by exact ⟨rfl, rfl, rfl, rfl, rfl, rfl, trivial⟩) (by dsimp only; omega) (by dsimp only; omega)
          dsimp only
          rw [hra]
          have e1 : rowHP vd 3 1 (row.length + 1) (nV row ++ [Value.int .i64 (u : Int)]) = rowHP vd 3 1 (row ++ [u]).length (nV (row ++ [u])) := by simp [nV]
          rw [← e1]
          rfl
        · have hrn := row_next (u := u) hlabu
          repeat' first
            | refine k_then ?_ | refine c_seq ?_ | refine c_region ?_ | refine s_nil ?_ | refine s_move (by exact rfl) (by exact rfl) ?_ | refine s_assign (by exact rfl) (by exact rfl) ?_ | refine s_fa (by exact rfl) (by exact rfl) ?_ | refine s_ld_box (by exact rfl) (by exact rfl) (by exact .tail _ (.tail _ (.tail _ (.tail _ (.head _))))) (by exact rfl) ?_ | refine s_lss (by exact rfl) (by exact rfl) (by exact rfl) ?_ | refine s_eql (by exact rfl) (by exact rfl) (by exact rfl) ?_ | refine s_add (by exact rfl) (by exact rfl) (by exact rfl) (by omega) ?_ | refine s_idx (by exact rfl) (by exact rfl) (by exact rfl) (by assumption) (by first | assumption | omega) ?_ | refine s_ld_row (by exact rfl) (by exact rfl) (by exact .tail _ (.tail _ (.tail _ (.head _)))) (by assumption) ?_ | refine c_block ?_ | refine c_skip ?_ | refine k_blk ?_ | (refine c_cond_p (by exact rfl) (fun h => ?_) (fun h => ?_) <;> try (exfalso; omega))
          refine c_round (u + 1, vc) [0, 0, 0, 0, 0] (by dsimp only; rw [hrn]; rfl) (by exact ⟨rfl, rfl, rfl, rfl, rfl, rfl, trivial⟩) (by dsimp only; omega) (by dsimp only; omega)
      · repeat' first
          | refine k_then ?_ | refine c_seq ?_ | refine c_region ?_ | refine s_nil ?_ | refine s_move (by exact rfl) (by exact rfl) ?_ | refine s_fa (by exact rfl) (by exact rfl) ?_ | refine s_ld_box (by exact rfl) (by exact rfl) (by exact .tail _ (.tail _ (.tail _ (.tail _ (.head _))))) (by exact rfl) ?_ | refine s_lss (by exact rfl) (by exact rfl) (by exact rfl) ?_ | refine c_exit ?_ | refine k_then_exit ?_ | refine k_blk_eq ?_ | (refine c_cond_p (by exact rfl) (fun h => ?_) (fun h => ?_) <;> try (exfalso; omega))
        obtain rfl : u = N := by omega
        refine know_row (v := vc) (.head _) fun hvc _ => ?_
        refine o_mk [vc] (by exact rfl) (by exact rfl) rfl ?_ ?_ (by simp) fun vt hvt => ?_
        · intro u hu
          obtain rfl : u = vc := by simpa using hu
          rw [← Array.length_toList, one_cells hvc.one]; rfl
        · simp
        rw [show ([vc].flatMap fun u => u.cells.toList) = [vc] from by simp [one_cells hvc.one]]
        skip
        refine o_append_row (i := 2) (by exact rfl) (by exact rfl) (by exact rfl) (by exact rfl) (by exact .head _) (by exact rfl) (by simp [hvc.one]) ?_ fun vo2 hvo2 => ?_
        · omega
        repeat' first
          | refine k_then ?_ | refine c_region ?_ | refine s_nil ?_ | refine s_move (by exact rfl) (by exact rfl) ?_ | refine s_assign (by exact rfl) (by exact rfl) ?_ | refine s_add (by exact rfl) (by exact rfl) (by exact rfl) (by omega) ?_ | refine k_blk ?_
        have e1 : rowHP vc 3 1 ((List.range u).filter fun x => lab x == i).length (nV ((List.range u).filter fun x => lab x == i)) = rowN vc ((List.range u).filter fun x => lab x == i) := rfl
        refine c_pick [1, 1, 1, 1, 1] (by exact rfl) ?_
        rw [e1]
        refine c_pushk 1 (by exact rfl) ?_
        refine c_round (i + 1, vo2, ho ++ [vc]) [0, 0, 0, 0] ?_ (by exact ⟨rfl, rfl, rfl, rfl, trivial⟩) ⟨by dsimp only; omega, by dsimp only; rw [hadd, List.length_append, List.length_append, hho]; rfl⟩ (by dsimp only; omega)
        dsimp only
        rw [hadd, kids_append hho, List.length_append]
        rfl
    · have hnx := compsI_next (N := N) hlab
      repeat' first
        | refine k_then ?_ | refine c_seq ?_ | refine c_region ?_ | refine s_nil ?_ | refine s_move (by exact rfl) (by exact rfl) ?_ | refine s_assign (by exact rfl) (by exact rfl) ?_ | refine s_fa (by exact rfl) (by exact rfl) ?_ | refine s_ld_box (by exact rfl) (by exact rfl) (by exact .tail _ (.tail _ (.tail _ (.head _)))) (by exact rfl) ?_ | refine s_lss (by exact rfl) (by exact rfl) (by exact rfl) ?_ | refine s_neq (by exact rfl) (by exact rfl) (by exact rfl) ?_ | refine s_add (by exact rfl) (by exact rfl) (by exact rfl) (by omega) ?_ | refine s_idx (by exact rfl) (by exact rfl) (by exact rfl) (by assumption) (by first | assumption | omega) ?_ | refine s_ld_row (by exact rfl) (by exact rfl) (by exact .tail _ (.tail _ (.head _))) (by assumption) ?_ | refine c_block ?_ | refine c_skip ?_ | refine c_exit ?_ | refine k_then_exit ?_ | refine k_blk_eq ?_ | (refine c_cond_p (by exact rfl) (fun h => ?_) (fun h => ?_) <;> try (exfalso; omega))
      refine c_round (i + 1, vo, ho) [0, 0, 0, 0] (by dsimp only; rw [hnx]; rfl) (by exact ⟨rfl, rfl, rfl, rfl, trivial⟩) ⟨by omega, by dsimp only; rw [hnx]; exact hho⟩ (by dsimp only; omega)
  · repeat' first
      | refine k_then ?_ | refine c_seq ?_ | refine c_region ?_ | refine s_nil ?_ | refine s_move (by exact rfl) (by exact rfl) ?_ | refine s_assign (by exact rfl) (by exact rfl) ?_ | refine s_fa (by exact rfl) (by exact rfl) ?_ | refine s_ld_box (by exact rfl) (by exact rfl) (by exact .tail _ (.tail _ (.tail _ (.head _)))) (by exact rfl) ?_ | refine s_lss (by exact rfl) (by exact rfl) (by exact rfl) ?_ | refine c_exit ?_ | refine c_ret ?_ | refine k_then_exit ?_ | refine k_blk_eq ?_ | (refine c_cond_p (by exact rfl) (fun h => ?_) (fun h => ?_) <;> try (exfalso; omega))
    obtain rfl : i = N := by omega
    refine ret1 [0, 0] rfl rfl rfl ⟨ho, hho, rfl⟩
end Go.Proofs.YtpajjnkmaebhcabGreat
end
section
namespace Go.Proofs.YtpajjnkmaebhcabGreat
open Go.RowKit Go.Sl Fil
set_option maxRecDepth 100000
set_option maxHeartbeats 8000000
set_option linter.unusedVariables false
set_option linter.unusedSimpArgs false
attribute [local irreducible] Code.wp wpList bodyPost wpQuiet Exit.then Exit.inBlock Post wpAnyH wpOp
end Go.Proofs.YtpajjnkmaebhcabGreat
end
section
namespace Go.Proofs.YtpajjnkmaebhcabGreat
open Go.RowKit Go.Sl Fil
set_option maxRecDepth 100000
set_option maxHeartbeats 8000000
set_option linter.unusedVariables false
set_option linter.unusedSimpArgs false
attribute [local irreducible] Code.wp wpList bodyPost wpQuiet Exit.then Exit.inBlock Post wpAnyH wpOp
end Go.Proofs.YtpajjnkmaebhcabGreat
end
section
namespace Fil
def ab (l : List (Nat × Nat)) (u : Nat) : List (Nat × Nat) := l.zipIdx.filterMap fun p => if p.1.1 = u then some (p.1.2, p.2) else if p.1.2 = u then some (p.1.1, p.2) else none
def arcsL (N : Nat) (l : List (Nat × Nat)) : List (List (Nat × Nat)) := (List.range N).map (ab l)
theorem ab_snoc (l : List (Nat × Nat)) (e : Nat × Nat) (u : Nat) : ab (l ++ [e]) u = ab l u ++ (if e.1 = u then [(e.2, l.length)] else if e.2 = u then [(e.1, l.length)] else []) := by
  simp only [ab, List.zipIdx_append, List.filterMap_append, List.zipIdx_cons, List.zipIdx_nil, List.filterMap_cons, List.filterMap_nil, Nat.zero_add]
  split <;> (try split) <;> simp_all <;> split <;> simp_all
theorem ab_fst (l : List (Nat × Nat)) (u : Nat) : (ab l u).map Prod.fst = nb l u := by
  have key : ∀ (l : List (Nat × Nat)) (k : Nat), ((l.zipIdx k).filterMap fun p => if p.1.1 = u then some (p.1.2, p.2) else if p.1.2 = u then some (p.1.1, p.2) else none).map Prod.fst = nb l u := by
    intro l
    induction l with
    | nil => intro k; rfl
    | cons e l ih =>
      intro k
      simp only [List.zipIdx_cons, List.filterMap_cons, nb]
      have := ih (k + 1)
      simp only [nb] at this
      by_cases h1 : e.1 = u
      · simp [h1, this]
      · by_cases h2 : e.2 = u
        · simp [h1, h2, this]
        · simp [h1, h2, this]
  exact key l 0
theorem ab_length (l : List (Nat × Nat)) (u : Nat) : (ab l u).length ≤ l.length := by
  have := nb_length l u
  rw [← ab_fst, List.length_map] at this
  exact this
theorem arcs_snoc {N : Nat} {l : List (Nat × Nat)} {u v : Nat} (hu : u < N) (hv : v < N) (hne : u ≠ v) : arcsL N (l ++ [(u, v)]) = ((arcsL N l).set u (ab l u ++ [(v, l.length)])).set v (ab l v ++ [(u, l.length)]) := by
  apply List.ext_getElem?
  intro k
  simp only [arcsL, List.getElem?_set, List.getElem?_map, List.length_set, List.length_map, List.length_range]
  by_cases hk : k < N
  · rw [List.getElem?_eq_getElem (by simpa using hk)]
    simp only [List.getElem_range, Option.map_some, ab_snoc]
    by_cases h1 : u = k
    · subst h1
      simp [Ne.symm hne, hu]
    · by_cases h2 : v = k
      · subst h2
        simp [hv, h1]
      · simp [h1, h2]
  · rw [List.getElem?_eq_none (by simpa using hk)]
    have h1 : u ≠ k := by omega
    have h2 : v ≠ k := by omega
    simp [h1, h2]
theorem arcs_get {N : Nat} {l : List (Nat × Nat)} {u : Nat} (hu : u < N) : (arcsL N l)[u]? = some (ab l u) := by simp [arcsL, hu]
theorem arcs_zero (N : Nat) : arcsL N [] = List.replicate N [] := by
  have : ab [] = fun _ => [] := rfl
  rw [arcsL, this, List.map_const', List.length_range]
theorem tn_length (es : List E) : (tn es).length = es.length := by simp [tn]
end Fil
end
section
namespace Go.Sl
open Go Go.RowKit
def aV (l : List (Nat × Nat)) : List Value := l.flatMap fun a => [.int .i64 (a.1 : Int), .int .i64 (a.2 : Int)]
def rowA (h : Value) (l : List (Nat × Nat)) : HP := rowHP h 127 2 l.length (aV l)
end Go.Sl
namespace Go.Proofs.YtpajjnkmaebhcabGreat
open Go.RowKit Go.Sl Fil
set_option maxRecDepth 100000
set_option maxHeartbeats 8000000
set_option linter.unusedVariables false
set_option linter.unusedSimpArgs false
attribute [local irreducible] Code.wp wpList bodyPost wpQuiet Exit.then Exit.inBlock Post wpAnyH wpOp
theorem arcs_ok (n : Int) (v : Value) (es : List E) (w : World) (hs : Shp v es.length) (hr : RO w No v (esV es)) (hR : RightG n es) :
    Calls Tryz.prog 94 #[.agg #[.int .i64 n, v]] w (Post w No fun r L' => ∃ hs : List Value, hs.length = n.toNat ∧ L' = [rowHP r 125 1 n.toNat hs, starHP (kids rowA hs (arcsL n.toNat (tn es)))]) := by
  have hm : es.length < 4611686018427387904 := by have := hR.many; omega
  have hlo := hR.lo
  have hhi := hR.hi
  refine enter0 (vs := [_]) Tryz.func94 rfl Tryz.ntmps94 rfl ?_
  repeat' first
    | refine k_then ?_ | refine c_seq ?_ | refine c_region ?_ | refine s_nil ?_ | refine s_assign (by exact rfl) (by exact rfl) ?_ | refine s_fa (by exact rfl) (by exact rfl) ?_ | refine s_ld_box (by exact rfl) (by exact rfl) (by exact .head _) (by exact rfl) ?_ | refine o_box (by exact rfl) (by exact rfl) (fun b => ?_)
  refine o_make (by exact rfl) (by exact rfl) (by exact rfl) (by omega) (by omega) fun vo hvo => ?_
  rw [made1 rfl]
  repeat' first
    | refine k_then ?_ | refine c_seq ?_ | refine c_region ?_ | refine s_nil ?_ | refine s_move (by exact rfl) (by exact rfl) ?_ | refine s_assign (by exact rfl) (by exact rfl) ?_ | refine s_fa (by exact rfl) (by exact rfl) ?_ | refine s_ld_box (by exact rfl) (by exact rfl) (by exact .tail _ (.head _)) (by exact rfl) ?_ | refine s_len (by exact rfl) (by exact rfl) (by assumption) ?_ | refine c_block ?_
  refine c_nils 127 2 n.toNat ?_
  refine c_loop (fun x : Nat × List Value => x.1 ≤ es.length ∧ x.2.length = n.toNat) (fun x => [(3, vo), (10, v), (11, .int .i64 (es.length : Int)), (12, .int .i64 (x.1 : Int))]) (fun x => [rowHP vo 125 1 n.toNat x.2, starHP (kids rowA x.2 (arcsL n.toNat (tn (es.take x.1))))]) (fun x => es.length - x.1) (0, List.replicate n.toNat (.slice none 0 0)) [1, 0] ⟨by omega, by simp⟩ ?_ ⟨rfl, rfl, rfl, rfl, trivial⟩ ?_
  · show _ = some [_, starHP (kids rowA _ (arcsL n.toNat []))]
    rw [arcs_zero, kids_nils]
    rfl
  rintro ⟨k, hs0⟩ ⟨hk, hl0⟩
  dsimp only at hk hl0 ⊢
  by_cases hlt : k < es.length
  · obtain ⟨e, he⟩ : ∃ e, es[k]? = some e := ⟨_, List.getElem?_eq_getElem hlt⟩
    have hE := esV_at he
    obtain ⟨q1, q2, q3, -, -⟩ := hR.ok e (List.mem_of_getElem? he)
    have hsn := arcs_snoc (N := n.toNat) (l := tn (es.take k)) (u := e.1.toNat) (v := e.2.1.toNat) (by omega) (by omega) (by omega)
    rw [← tn_take he, tn_length, List.length_take, Nat.min_eq_left (by omega)] at hsn
    generalize hls : arcsL n.toNat (tn (es.take k)) = ls at *
    have hb : ∀ u, (ab (tn (es.take k)) u).length ≤ 4194304 := fun u => by
      have := ab_length (tn (es.take k)) u
      have h2 := hR.many
      rw [tn_length, List.length_take] at this
      omega
    repeat' first
      | refine k_then ?_ | refine c_seq ?_ | refine c_region ?_ | refine s_nil ?_ | refine s_move (by exact rfl) (by exact rfl) ?_ | refine s_assign (by exact rfl) (by exact rfl) ?_ | refine s_lss (by exact rfl) (by exact rfl) (by exact rfl) ?_ | refine s_idx (by exact rfl) (by exact rfl) (by exact rfl) (by assumption) (by first | assumption | omega) ?_ | refine s_ldk_ro (by exact rfl) (by exact rfl) (by assumption) (by decide) (by assumption) (by exact rfl) ?_ | refine o_alloc (by exact rfl) (fun b => ?_) | refine c_block ?_ | refine c_skip ?_ | (refine c_cond_p (by exact rfl) (fun h => ?_) (fun h => ?_) <;> try (exfalso; omega))
    refine o_stk_box (i := 0) (us := eV e) (by exact rfl) (by exact rfl) (by exact rfl) (by exact rfl) (by exact rfl) (by simp [eV, Value.oneCell']) (by simp [Value.cells]) ?_
    repeat' first
      | refine k_then ?_ | refine c_seq ?_ | refine s_nil ?_
    refine c_cut (fun hs1 : List Value => hs1.length = n.toNat) (fun _ => [(4, .int .i64 (k : Int)), (5, .pointer (some ⟨b, 0, none⟩)), (3, vo), (10, v), (11, .int .i64 (es.length : Int)), (12, .int .i64 (k : Int))]) (fun hs1 => [boxHP b 37 (eV e), rowHP vo 125 1 n.toNat hs1, starHP (kids rowA hs1 (ls.set e.1.toNat ((ab (tn (es.take k)) e.1.toNat) ++ [(e.2.1.toNat, k)])))]) ?_ fun hs1 hl1 => ?_
    · obtain ⟨hd, hhd⟩ : ∃ hd, hs0[e.1.toNat * 1]? = some hd := ⟨_, List.getElem?_eq_getElem (by omega)⟩
      have hkid : (ls)[e.1.toNat]? = some (ab (tn (es.take k)) e.1.toNat) := by rw [← hls]; exact arcs_get (by omega)
      refine c_take 2 e.1.toNat (by exact rfl) (kids_get (by simpa using hhd) hkid) ?_
      refine p_begin [(0, true), (1, true), (2, true), (3, true), (4, true), (5, true), (6, true), (8, true), (9, true), (10, true), (11, true), .rd 7 12, (13, false), (14, true), (15, false)] [boxHP b 37 (eV e)] (by kernel_rfl) ?_
      repeat' first
        | (refine p_at (by exact rfl) ?_
           first
            | refine t_move (by exact rfl) (by exact rfl) (by exact fun _ h => h.pick [1] (by exact rfl)) ?_ | refine t_fa (by exact rfl) (by exact rfl) (by exact fun _ h => h.pick [1] (by exact rfl)) ?_ | refine t_ld_box (by exact rfl) (by exact rfl) (by exact .head _) (by exact rfl) (by exact fun _ h => h.pick [1] (by exact rfl)) ?_ | refine t_idxi (by exact rfl) (by exact rfl) (by exact rfl) (by assumption) (by first | assumption | omega) (by exact fun _ h => h.pick [1] (by exact rfl)) ?_)
      refine p_buildt (cs := [.int .i64 e.2.1, .int .i64 (k : Int)]) [(0, .int .i64 e.2.1, [.int .i64 e.2.1]), (1, .int .i64 (k : Int), [.int .i64 (k : Int)])] (by exact rfl) (by exact rfl) (by exact rfl) (by simp [Value.cells]) ?_ (by exact fun _ h => h.pick [1] (by exact rfl)) ?_
      · exact rfl
      refine p_rd ?_ ?_
      all_goals
        repeat' first
          | (refine p_at (by exact rfl) ?_
             first
              | refine r_ld_row (by exact rfl) (by exact rfl) (by exact .tail _ (.tail _ (.head _))) (by assumption) (by exact fun _ h => h.pick [1] (by exact rfl)) ?_)
        refine p_mk [.agg #[.int .i64 e.2.1, .int .i64 (k : Int)]] (by exact rfl) rfl (by exact rfl) rfl ?_ ?_ (by simp) (fun w A h => h.pick [2] (by exact rfl)) (fun sx hsx => ?_)
        · simp [Value.cells]
        · simp
        repeat' first
          | (refine p_at (by exact rfl) ?_
             first
              | refine r_ld_row (by exact rfl) (by exact rfl) (by exact .tail _ (.tail _ (.tail _ (.head _)))) (by assumption) (by exact fun _ h => h.pick [2] (by exact rfl)) ?_)
        refine p_append_row (j := 1) (by exact rfl) (by exact rfl) (by exact rfl) (by exact rfl) (by exact rfl) (by exact .head _) (by exact rfl) (by simp [Value.cells, Value.oneCell']) ?_ (fun w v h => h.pick [2] (by exact rfl)) (fun vk hvk => ?_)
        · have := hb e.1.toNat
          simp only [List.length_cons, List.length_nil]
          omega
        repeat' first
          | (refine p_at (by exact rfl) ?_
             first
              | refine t_idxi (by exact rfl) (by exact rfl) (by exact rfl) (by assumption) (by first | assumption | omega) (by exact fun _ h => h.pick [2] (by exact rfl)) ?_)
        refine p_st_row (j := 3) (by exact rfl) (by exact rfl) (by exact rfl) (by exact rfl) hvk.one (by omega) (fun w h => h.pick [2] (by exact rfl)) ?_
        repeat' first
          | refine p_nil ?_
        refine c_pick [1, 1, 1, 1] (by exact rfl) ?_
        have e1 : rowHP vk 127 2 ((ab (tn (es.take k)) e.1.toNat).length + 1) (aV (ab (tn (es.take k)) e.1.toNat) ++ [Value.int .i64 e.2.1, Value.int .i64 (k : Int)]) = rowA vk ((ab (tn (es.take k)) e.1.toNat) ++ [(e.2.1.toNat, k)]) := by
          rw [show (e.2.1 : Int) = ((e.2.1.toNat : Nat) : Int) from by omega]
          simp [rowA, aV, List.flatMap_append]
        refine c_give 2 e.1.toNat (by exact rfl) (by simp [kids, hl0, ← hls, arcsL]; omega) ?_
        refine cut_end (hs0.set e.1.toNat vk) [0, 0, 0] ?_ ⟨rfl, rfl, rfl, rfl, rfl, rfl, trivial⟩ (by simpa using hl0)
        rw [← kids_set (x := empHP), ← e1, Nat.mul_one]
        rfl
    repeat' first
      | refine k_then ?_
    refine c_cut (fun hs1 : List Value => hs1.length = n.toNat) (fun _ => [(4, .int .i64 (k : Int)), (5, .pointer (some ⟨b, 0, none⟩)), (3, vo), (10, v), (11, .int .i64 (es.length : Int)), (12, .int .i64 (k : Int))]) (fun hs1 => [boxHP b 37 (eV e), rowHP vo 125 1 n.toNat hs1, starHP (kids rowA hs1 ((ls.set e.1.toNat ((ab (tn (es.take k)) e.1.toNat) ++ [(e.2.1.toNat, k)])).set e.2.1.toNat ((ab (tn (es.take k)) e.2.1.toNat) ++ [(e.1.toNat, k)])))]) ?_ fun hs2 hl2 => ?_
    · obtain ⟨hd, hhd⟩ : ∃ hd, hs1[e.2.1.toNat * 1]? = some hd := ⟨_, List.getElem?_eq_getElem (by omega)⟩
      have hkid : (ls.set e.1.toNat ((ab (tn (es.take k)) e.1.toNat) ++ [(e.2.1.toNat, k)]))[e.2.1.toNat]? = some (ab (tn (es.take k)) e.2.1.toNat) := by rw [List.getElem?_set_ne (by omega), ← hls]; exact arcs_get (by omega)
      refine c_take 2 e.2.1.toNat (by exact rfl) (kids_get (by simpa using hhd) hkid) ?_
      refine p_begin [(0, true), (1, true), (2, true), (3, true), (4, true), (5, true), (6, true), (8, true), (9, true), (10, true), (11, true), .rd 7 12, (13, false), (14, true), (15, false)] [boxHP b 37 (eV e)] (by kernel_rfl) ?_
      repeat' first
        | (refine p_at (by exact rfl) ?_
           first
            | refine t_move (by exact rfl) (by exact rfl) (by exact fun _ h => h.pick [1] (by exact rfl)) ?_ | refine t_fa (by exact rfl) (by exact rfl) (by exact fun _ h => h.pick [1] (by exact rfl)) ?_ | refine t_ld_box (by exact rfl) (by exact rfl) (by exact .head _) (by exact rfl) (by exact fun _ h => h.pick [1] (by exact rfl)) ?_ | refine t_idxi (by exact rfl) (by exact rfl) (by exact rfl) (by assumption) (by first | assumption | omega) (by exact fun _ h => h.pick [1] (by exact rfl)) ?_)
      refine p_buildt (cs := [.int .i64 e.1, .int .i64 (k : Int)]) [(0, .int .i64 e.1, [.int .i64 e.1]), (1, .int .i64 (k : Int), [.int .i64 (k : Int)])] (by exact rfl) (by exact rfl) (by exact rfl) (by simp [Value.cells]) ?_ (by exact fun _ h => h.pick [1] (by exact rfl)) ?_
      · exact rfl
      refine p_rd ?_ ?_
      all_goals
        repeat' first
          | (refine p_at (by exact rfl) ?_
             first
              | refine r_ld_row (by exact rfl) (by exact rfl) (by exact .tail _ (.tail _ (.head _))) (by assumption) (by exact fun _ h => h.pick [1] (by exact rfl)) ?_)
        refine p_mk [.agg #[.int .i64 e.1, .int .i64 (k : Int)]] (by exact rfl) rfl (by exact rfl) rfl ?_ ?_ (by simp) (fun w A h => h.pick [2] (by exact rfl)) (fun sx hsx => ?_)
        · simp [Value.cells]
        · simp
        repeat' first
          | (refine p_at (by exact rfl) ?_
             first
              | refine r_ld_row (by exact rfl) (by exact rfl) (by exact .tail _ (.tail _ (.tail _ (.head _)))) (by assumption) (by exact fun _ h => h.pick [2] (by exact rfl)) ?_)
        refine p_append_row (j := 1) (by exact rfl) (by exact rfl) (by exact rfl) (by exact rfl) (by exact rfl) (by exact .head _) (by exact rfl) (by simp [Value.cells, Value.oneCell']) ?_ (fun w v h => h.pick [2] (by exact rfl)) (fun vk hvk => ?_)
        · have := hb e.2.1.toNat
          simp only [List.length_cons, List.length_nil]
          omega
        repeat' first
          | (refine p_at (by exact rfl) ?_
             first
              | refine t_idxi (by exact rfl) (by exact rfl) (by exact rfl) (by assumption) (by first | assumption | omega) (by exact fun _ h => h.pick [2] (by exact rfl)) ?_)
        refine p_st_row (j := 3) (by exact rfl) (by exact rfl) (by exact rfl) (by exact rfl) hvk.one (by omega) (fun w h => h.pick [2] (by exact rfl)) ?_
        repeat' first
          | refine p_nil ?_
        refine c_pick [1, 1, 1, 1] (by exact rfl) ?_
        have e1 : rowHP vk 127 2 ((ab (tn (es.take k)) e.2.1.toNat).length + 1) (aV (ab (tn (es.take k)) e.2.1.toNat) ++ [Value.int .i64 e.1, Value.int .i64 (k : Int)]) = rowA vk ((ab (tn (es.take k)) e.2.1.toNat) ++ [(e.1.toNat, k)]) := by
          rw [show (e.1 : Int) = ((e.1.toNat : Nat) : Int) from by omega]
          simp [rowA, aV, List.flatMap_append]
        refine c_give 2 e.2.1.toNat (by exact rfl) (by simp [kids, hl1, ← hls, arcsL]; omega) ?_
        refine cut_end (hs1.set e.2.1.toNat vk) [0, 0, 0] ?_ ⟨rfl, rfl, rfl, rfl, rfl, rfl, trivial⟩ (by simpa using hl1)
        rw [← kids_set (x := empHP), ← e1, Nat.mul_one]
        rfl
    repeat' first
      | refine k_then ?_ | refine c_region ?_ | refine s_nil ?_ | refine s_move (by exact rfl) (by exact rfl) ?_ | refine s_add (by exact rfl) (by exact rfl) (by exact rfl) (by omega) ?_ | refine k_blk ?_
    refine c_round (k + 1, hs2) [1, 1] (by rw [hsn]; rfl) (by exact ⟨rfl, rfl, rfl, rfl, trivial⟩) ⟨by omega, hl2⟩ (by dsimp only; omega)
  · repeat' first
      | refine k_then ?_ | refine c_seq ?_ | refine c_region ?_ | refine s_nil ?_ | refine s_move (by exact rfl) (by exact rfl) ?_ | refine s_assign (by exact rfl) (by exact rfl) ?_ | refine s_lss (by exact rfl) (by exact rfl) (by exact rfl) ?_ | refine c_exit ?_ | refine c_ret ?_ | refine k_then_exit ?_ | refine k_blk_eq ?_ | (refine c_cond_p (by exact rfl) (fun h => ?_) (fun h => ?_) <;> try (exfalso; omega))
    obtain rfl : k = es.length := by omega
    refine ret1 [0, 0] rfl rfl rfl ⟨hs0, hl0, ?_⟩
    rw [List.take_length]
end Go.Proofs.YtpajjnkmaebhcabGreat
end
section
namespace Go.Sl
open Go Go.RowKit
theorem aV_at {l : List (Nat × Nat)} {j : Nat} {a : Nat × Nat} (h : l[j]? = some a) : ((aV l).drop (j * 2)).take 2 = [.int .i64 (a.1 : Int), .int .i64 (a.2 : Int)] := by
  induction l generalizing j with
  | nil => simp at h
  | cons x l ih =>
    cases j with
    | zero =>
      obtain rfl : x = a := by simpa using h
      rfl
    | succ j =>
      have := ih (j := j) (by simpa using h)
      rw [show (j + 1) * 2 = j * 2 + 2 from by omega]
      exact this
end Go.Sl
namespace Go.Proofs.YtpajjnkmaebhcabGreat
open Go.RowKit Go.Sl Fil
set_option maxRecDepth 100000
set_option maxHeartbeats 8000000
set_option linter.unusedVariables false
set_option linter.unusedSimpArgs false
attribute [local irreducible] Code.wp wpList bodyPost wpQuiet Exit.then Exit.inBlock Post wpAnyH wpOp
theorem Components_ok (n : Int) (v : Value) (es : List E) (w : World) (hs : Shp v es.length) (hr : RO w No v (esV es)) (hR : RightG n es) :
    Calls Tryz.prog 72 #[.agg #[.int .i64 n, v]] w (Post w No fun r L' => ∃ (met : List Bool) (out : List Nat) (lab : Nat → Nat) (hr : List Value), Bfs n.toNat (nb (tn es)) n.toNat met out lab [] ∧ hr.length = (compsL n.toNat n.toNat met lab).length ∧ L' = [rowHP r 28 1 (compsL n.toNat n.toNat met lab).length hr, starHP (kids rowN hr (compsL n.toNat n.toNat met lab))]) := by
  have hR0 := right_iff.2 hR
  have hm : es.length < 4611686018427387904 := by have := hR.many; omega
  have hlo := hR.lo
  have hhi := hR.hi
  have hA := hR.good.adj
  refine enter0 (vs := [_]) Tryz.func72 rfl Tryz.ntmps72 rfl ?_
  repeat' first
    | refine k_then ?_ | refine c_seq ?_ | refine c_region ?_ | refine s_nil ?_ | refine s_assign (by exact rfl) (by exact rfl) ?_ | refine s_ldk_box (by exact rfl) (by exact rfl) (by exact .head _) (by exact rfl) (by exact rfl) ?_ | refine o_box (by exact rfl) (by exact rfl) (fun b => ?_)
  refine s_call (by exact rfl) (by exact rfl) (fun w h => Right_ok n v es w hs (ro_old h hr) hm) ?_
  repeat' first
    | refine k_then ?_ | refine c_seq ?_ | refine c_region ?_ | refine s_nil ?_ | refine s_neq (by exact rfl) (by exact rfl) (by exact rfl) ?_ | refine s_ldk_box (by exact rfl) (by exact rfl) (by exact .head _) (by exact rfl) (by exact rfl) ?_ | refine c_skip ?_ | (refine c_cond_p (by exact rfl) (fun h => ?_) (fun h => ?_) <;> try (exfalso; omega))
  refine o_call (by exact rfl) (by exact rfl) (fun w h => arcs_ok n v es w hs (ro_old h hr) hR) ?_
  rintro va _ ⟨ha, hla, rfl⟩
  refine know_row (v := va) (.head _) fun hva _ => ?_
  repeat' first
    | refine k_then ?_ | refine c_seq ?_ | refine c_region ?_ | refine s_nil ?_ | refine s_assign (by exact rfl) (by exact rfl) ?_ | refine s_fa (by exact rfl) (by exact rfl) ?_ | refine s_ld_box (by exact rfl) (by exact rfl) (by exact .tail _ (.tail _ (.head _))) (by exact rfl) ?_
  refine o_make (by exact rfl) (by exact rfl) (by exact rfl) (by omega) (by omega) fun vm hvm => ?_
  rw [made1 (z := .bool false) rfl]
  repeat' first
    | refine k_then ?_ | refine c_seq ?_ | refine c_region ?_ | refine s_nil ?_ | refine s_move (by exact rfl) (by exact rfl) ?_ | refine s_assign (by exact rfl) (by exact rfl) ?_ | refine s_fa (by exact rfl) (by exact rfl) ?_ | refine s_ld_box (by exact rfl) (by exact rfl) (by exact .tail _ (.tail _ (.tail _ (.head _)))) (by exact rfl) ?_ | refine c_block ?_
  have hal : ∀ x, (ab (tn es) x).length ≤ 4194304 := fun x => by
    have h1 := ab_length (tn es) x
    have h2 := hR.many
    rw [tn_length] at h1
    omega
  generalize hl : tn es = l at *
  generalize hN : n.toNat = N at *
  have hnN : n = (N : Int) := by omega
  subst hnN
  refine c_nil 28 1 ?_
  refine c_star0 ?_
  refine c_loop (fun x : Nat × List Bool × List Nat × (Nat → Nat) × Value × List Value => x.1 ≤ N ∧ Bfs N (nb l) x.1 x.2.1 x.2.2.1 x.2.2.2.1 [] ∧ x.2.2.2.2.2.length = (compsL N x.1 x.2.1 x.2.2.2.1).length ∧ ∀ u, x.2.1.getD u false = true → x.2.2.2.1 u < x.1) (fun x => [(2, x.2.2.2.2.1), (3, va), (4, vm), (19, .int .i64 (N : Int)), (20, .int .i64 (x.1 : Int))])
    (fun x => [rowHP vm 4 1 N (bV x.2.1), rowHP x.2.2.2.2.1 28 1 (compsL N x.1 x.2.1 x.2.2.2.1).length x.2.2.2.2.2, starHP (kids rowN x.2.2.2.2.2 (compsL N x.1 x.2.1 x.2.2.2.1)), rowHP va 125 1 N ha, starHP (kids rowA ha (arcsL N l))]) (fun x => N - x.1) (0, List.replicate N false, List.replicate N 0, (fun _ => 0), .slice none 0 0, []) [2, 1, 0, 0, 0] ⟨Nat.zero_le _, Bfs.init N (nb l), rfl, ?_⟩ ?_ ⟨rfl, rfl, rfl, rfl, rfl, trivial⟩ ?_
  · intro u hu
    simp only [List.getD_eq_getElem?_getD, List.getElem?_replicate] at hu
    split at hu <;> simp at hu
  · simp only [bV, List.map_replicate]
    rfl
  rintro ⟨i, met, out, lab, vr, hr0⟩ ⟨hi, hB, hhr, hLt⟩
  dsimp only at hi hB hhr hLt ⊢
  by_cases hlt : i < N
  · have hmi := bV_get (l := met) (k := i) (by rw [hB.lm]; exact hlt)
    cases hmet : met.getD i false
    · rw [hmet] at hmi
      repeat' first
        | refine k_then ?_ | refine c_seq ?_ | refine c_region ?_ | refine s_nil ?_ | refine s_move (by exact rfl) (by exact rfl) ?_ | refine s_assign (by exact rfl) (by exact rfl) ?_ | refine s_lss (by exact rfl) (by exact rfl) (by exact rfl) ?_ | refine s_idx (by exact rfl) (by exact rfl) (by exact rfl) (by assumption) (by first | assumption | omega) ?_ | refine s_ld_row (by exact rfl) (by exact rfl) (by exact .head _) (by assumption) ?_ | refine c_block ?_ | refine c_skip ?_ | (refine c_cond_p (by exact rfl) (fun h => ?_) (fun h => ?_) <;> try (exfalso; omega)) | refine c_cond_f (by exact rfl) ?_
      refine o_st_row (i := 0) (by exact rfl) (by exact rfl) (by exact rfl) rfl (by omega) ?_
      repeat' first
        | refine k_then ?_ | refine c_seq ?_ | refine c_region ?_ | refine s_nil ?_ | refine s_move (by exact rfl) (by exact rfl) ?_
      rw [bV_set]
      refine o_mk [.int .i64 (i : Int)] (by exact rfl) (by exact rfl) rfl ?_ ?_ (by simp) fun vl0 hvl0 => ?_
      · simp [Value.cells]
      · simp
      repeat' first
        | refine k_then ?_ | refine c_seq ?_ | refine c_region ?_ | refine s_nil ?_ | refine s_assign (by exact rfl) (by exact rfl) ?_ | refine c_block ?_
      have hBs := hB.start hlt hmet
      have hP := Part.start hlt hB.lm hLt
      have hC := comps_step (N := N) (lab := lab) hmet hB.below
      generalize hcs : compsL N i met lab = cs at *
      clear hcs
      refine c_loop (fun x : Value × List Nat × Nat × List Bool × List Nat × (Nat → Nat) => x.2.2.1 ≤ x.2.1.length ∧ Bfs N (nb l) i x.2.2.2.1 x.2.2.2.2.1 x.2.2.2.2.2 (x.2.1.drop x.2.2.1) ∧ Part N i x.2.2.2.1 x.2.2.2.2.2 x.2.1 ∧ compsL N i x.2.2.2.1 x.2.2.2.2.2 = cs ∧ x.2.2.2.1.getD i false = true ∧ x.2.2.2.2.2 i = i)
        (fun x => [(2, vr), (3, va), (4, vm), (5, .int .i64 (i : Int)), (6, x.1), (7, .int .i64 (x.2.2.1 : Int)), (19, .int .i64 (N : Int)), (20, .int .i64 (i : Int))])
        (fun x => [rowHP x.1 3 1 x.2.1.length (nV x.2.1), rowHP vm 4 1 N (bV x.2.2.2.1), rowHP vr 28 1 cs.length hr0, starHP (kids rowN hr0 cs), rowHP va 125 1 N ha, starHP (kids rowA ha (arcsL N l))])
        (fun x => 2 * unmet x.2.2.2.1 + (x.2.1.length - x.2.2.1)) (vl0, [i], 0, met.set i true, out, fun x => if x = i then i else lab x) [0, 0, 0, 0, 0, 0] ⟨Nat.zero_le _, hBs, hP, hC, hBs.line_met i (by simp), by simp⟩ (by exact rfl) ⟨rfl, rfl, rfl, rfl, rfl, rfl, rfl, rfl, trivial⟩ ?_
      clear hBs hP hC hmi hmet hB hvl0 hLt
      clear vl0 out lab met
      rintro ⟨vp, part, at0, met, out, lab⟩ ⟨hat, hB, hP, hC, hmi, hli⟩
      dsimp only at hat hB hP hC hmi hli ⊢
      refine know_row (v := vp) (.head _) fun hvp _ => ?_
      have hpl := hP.length_le
      by_cases hal0 : at0 < part.length
      · obtain ⟨x, hx⟩ : ∃ x, part[at0]? = some x := ⟨_, List.getElem?_eq_getElem hal0⟩
        have hdrop : part.drop at0 = x :: part.drop (at0 + 1) := by
          obtain ⟨h1, h2⟩ := List.getElem?_eq_some_iff.1 hx
          rw [List.drop_eq_getElem_cons h1, h2]
        rw [hdrop] at hB
        have hxN := hB.line_lt x (by simp)
        have hAx := hal x
        have hx0 : (nV part)[at0 * 1]? = some (.int .i64 (x : Int)) := by simp [nV, hx]
        obtain ⟨hd, hhd⟩ : ∃ hd, ha[x * 1]? = some hd := ⟨_, List.getElem?_eq_getElem (by omega)⟩
        have hK : rowHP hd 127 2 (ab l x).length (aV (ab l x)) ∈ kids rowA ha (arcsL N l) := kids_mem (f := rowA) (k := x) (by simpa using hhd) (arcs_get hxN)
        refine know_kid (Ks := kids rowA ha (arcsL N l)) (.tail _ (.tail _ (.tail _ (.tail _ (.tail _ (.head _)))))) hK fun hhs _ => ?_
        repeat' first
          | refine k_then ?_ | refine c_seq ?_ | refine c_region ?_ | refine s_nil ?_ | refine s_move (by exact rfl) (by exact rfl) ?_ | refine s_lss (by exact rfl) (by exact rfl) (by exact rfl) ?_ | refine s_len (by exact rfl) (by exact rfl) (by assumption) ?_ | refine s_idx (by exact rfl) (by exact rfl) (by exact rfl) (by assumption) (by first | assumption | omega) ?_ | refine s_ld_row (by exact rfl) (by exact rfl) (by first | exact .head _ | exact .tail _ (.tail _ (.tail _ (.tail _ (.head _))))) (by assumption) ?_ | refine c_block ?_ | refine c_skip ?_ | (refine c_cond_p (by exact rfl) (fun h => ?_) (fun h => ?_) <;> try (exfalso; omega))
        refine c_loop (fun y : Nat × Value × List Nat × List Bool × List Nat × (Nat → Nat) => y.1 ≤ (ab l x).length ∧ Bfs N (nb l) i y.2.2.2.1 y.2.2.2.2.1 y.2.2.2.2.2 (x :: y.2.2.1.drop (at0 + 1)) ∧ Seen (nb l) i y.2.2.2.1 y.2.2.2.2.1 y.2.2.2.2.2 x y.1 ∧ Part N i y.2.2.2.1 y.2.2.2.2.2 y.2.2.1 ∧ compsL N i y.2.2.2.1 y.2.2.2.2.2 = cs ∧ y.2.2.2.1.getD i false = true ∧ y.2.2.2.2.2 i = i ∧ at0 < y.2.2.1.length ∧ 2 * unmet y.2.2.2.1 + y.2.2.1.length ≤ 2 * unmet met + part.length)
          (fun y => [(2, vr), (3, va), (4, vm), (5, .int .i64 (i : Int)), (6, y.2.1), (7, .int .i64 (at0 : Int)), (19, .int .i64 (N : Int)), (20, .int .i64 (i : Int)), (44, hd), (45, .int .i64 ((ab l x).length : Int)), (46, .int .i64 (y.1 : Int))])
          (fun y => [rowHP y.2.1 3 1 y.2.2.1.length (nV y.2.2.1), rowHP vm 4 1 N (bV y.2.2.2.1), rowHP vr 28 1 cs.length hr0, starHP (kids rowN hr0 cs), rowHP va 125 1 N ha, starHP (kids rowA ha (arcsL N l))])
          (fun y => (ab l x).length - y.1) (0, vp, part, met, out, lab) [0, 0, 0, 0, 0, 0] ⟨Nat.zero_le _, hB, fun u hu => by simp at hu, hP, hC, hmi, hli, hal0, Nat.le_refl _⟩ (by exact rfl) ⟨rfl, rfl, rfl, rfl, rfl, rfl, rfl, rfl, rfl, rfl, rfl, trivial⟩ ?_
        clear hB hP hC hx0 hvp hmi hli
        rintro ⟨j, vq, part2, met2, out2, lab2⟩ ⟨hj, hB, hS, hP, hC, hmi, hli, hat2, hM2⟩
        dsimp only at hj hB hS hP hC hmi hli hat2 hM2 ⊢
        refine know_row (v := vq) (.head _) fun hvq _ => ?_
        have hpl2 := hP.length_le
        by_cases hjl : j < (ab l x).length
        · obtain ⟨a, hja⟩ : ∃ a, (ab l x)[j]? = some a := ⟨_, List.getElem?_eq_getElem hjl⟩
          have hu : (nb l x)[j]? = some a.1 := by rw [← ab_fst, List.getElem?_map, hja]; rfl
          have hun := hA.lt x hxN a.1 (List.mem_of_getElem? hu)
          have hju := aV_at hja
          have hmu := bV_get (l := met2) (k := a.1) (by rw [hB.lm]; exact hun)
          cases hmet : met2.getD a.1 false
          · rw [hmet] at hmu
            have hum := unmet_set (by rw [hB.lm]; exact hun) hmet
            obtain ⟨hB2, hS2⟩ := hB.new hA hS hu hmet
            have hP2 := hP.new hun hB.lm hmet
            have hC2 := comps_step (N := N) (lab := lab2) hmet hB.below
            repeat' first
              | refine k_then ?_ | refine c_seq ?_ | refine c_region ?_ | refine s_nil ?_ | refine s_lss (by exact rfl) (by exact rfl) (by exact rfl) ?_ | refine s_idx (by exact rfl) (by exact rfl) (by exact rfl) (by assumption) (by first | assumption | omega) ?_ | refine s_ldk_kid (by exact rfl) (by exact rfl) (by assumption) (by exact .tail _ (.tail _ (.tail _ (.tail _ (.tail _ (.head _)))))) (by decide) (by assumption) (by exact rfl) ?_ | refine o_alloc (by exact rfl) (fun b => ?_) | refine c_block ?_ | refine c_skip ?_ | (refine c_cond_p (by exact rfl) (fun h => ?_) (fun h => ?_) <;> try (exfalso; omega))
            refine o_stk_box (i := 0) (us := [.int .i64 (a.1 : Int), .int .i64 (a.2 : Int)]) (by exact rfl) (by exact rfl) (by exact rfl) (by exact rfl) (by exact rfl) (by simp [Value.oneCell']) (by simp [Value.cells]) ?_
            repeat' first
              | refine k_then ?_ | refine c_seq ?_ | refine c_region ?_ | refine s_nil ?_ | refine s_move (by exact rfl) (by exact rfl) ?_ | refine s_fa (by exact rfl) (by exact rfl) ?_ | refine s_ld_box (by exact rfl) (by exact rfl) (by exact .head _) (by exact rfl) ?_ | refine s_not (by exact rfl) (by exact rfl) ?_ | refine s_idx (by exact rfl) (by exact rfl) (by exact rfl) (by assumption) (by first | assumption | omega) ?_ | refine s_ld_row (by exact rfl) (by exact rfl) (by exact .tail _ (.tail _ (.head _))) (by assumption) ?_ | refine c_cond_t (by exact rfl) ?_
            refine o_st_row (i := 2) (by exact rfl) (by exact rfl) (by exact rfl) rfl (by omega) ?_
            repeat' first
              | refine k_then ?_ | refine c_region ?_ | refine s_nil ?_ | refine s_move (by exact rfl) (by exact rfl) ?_ | refine s_fa (by exact rfl) (by exact rfl) ?_ | refine s_ld_box (by exact rfl) (by exact rfl) (by exact .head _) (by exact rfl) ?_
            rw [bV_set]
            refine o_mk [.int .i64 (a.1 : Int)] (by exact rfl) (by exact rfl) rfl ?_ ?_ (by simp) fun vt hvt => ?_
            · simp [Value.cells]
            · simp
            skip
            refine o_append_row (i := 2) (by exact rfl) (by exact rfl) (by exact rfl) (by exact rfl) (by exact .head _) (by exact rfl) (by simp [Value.cells, Value.oneCell']) ?_ fun vl2 hvl2 => ?_
            · omega
            repeat' first
              | refine k_then ?_ | refine c_region ?_ | refine s_nil ?_ | refine s_move (by exact rfl) (by exact rfl) ?_ | refine s_assign (by exact rfl) (by exact rfl) ?_ | refine s_add (by exact rfl) (by exact rfl) (by exact rfl) (by omega) ?_ | refine k_blk ?_
            refine c_round (j + 1, vl2, part2 ++ [a.1], met2.set a.1 true, out2.set a.1 (out2.getD x 0 + 1), fun z => if z = a.1 then i else lab2 z) [2, 2, 2, 2, 2, 2] ?_ (by exact ⟨rfl, rfl, rfl, rfl, rfl, rfl, rfl, rfl, rfl, rfl, rfl, trivial⟩) ⟨by omega, ?_, hS2, hP2, by rw [hC2]; exact hC, ?_, ?_, ?_, ?_⟩ (by dsimp only; omega)
            · show pick [_, _, _, _, _, _, _, _] [2, 2, 2, 2, 2, 2] = some [_, _, _, _, _, _]
              have e1 : rowHP vl2 3 1 (part2.length + 1) (nV part2 ++ [Value.int .i64 (a.1 : Int)]) = rowHP vl2 3 1 (part2 ++ [a.1]).length (nV (part2 ++ [a.1])) := by simp [nV]
              rw [← e1]
              rfl
            · dsimp only
              rw [List.drop_append_of_le_length (by omega)]
              exact hB2
            · dsimp only
              rw [getD_set]
              split
              · rfl
              · exact hmi
            · dsimp only
              split
              · rfl
              · exact hli
            · simp; omega
            · simp only [List.length_append, List.length_singleton]
              omega
          · rw [hmet] at hmu
            repeat' first
              | refine k_then ?_ | refine c_seq ?_ | refine c_region ?_ | refine s_nil ?_ | refine s_lss (by exact rfl) (by exact rfl) (by exact rfl) ?_ | refine s_idx (by exact rfl) (by exact rfl) (by exact rfl) (by assumption) (by first | assumption | omega) ?_ | refine s_ldk_kid (by exact rfl) (by exact rfl) (by assumption) (by exact .tail _ (.tail _ (.tail _ (.tail _ (.tail _ (.head _)))))) (by decide) (by assumption) (by exact rfl) ?_ | refine o_alloc (by exact rfl) (fun b => ?_) | refine c_block ?_ | refine c_skip ?_ | (refine c_cond_p (by exact rfl) (fun h => ?_) (fun h => ?_) <;> try (exfalso; omega))
            refine o_stk_box (i := 0) (us := [.int .i64 (a.1 : Int), .int .i64 (a.2 : Int)]) (by exact rfl) (by exact rfl) (by exact rfl) (by exact rfl) (by exact rfl) (by simp [Value.oneCell']) (by simp [Value.cells]) ?_
            repeat' first
              | refine k_then ?_ | refine c_seq ?_ | refine c_region ?_ | refine s_nil ?_ | refine s_move (by exact rfl) (by exact rfl) ?_ | refine s_fa (by exact rfl) (by exact rfl) ?_ | refine s_ld_box (by exact rfl) (by exact rfl) (by exact .head _) (by exact rfl) ?_ | refine s_add (by exact rfl) (by exact rfl) (by exact rfl) (by omega) ?_ | refine s_not (by exact rfl) (by exact rfl) ?_ | refine s_idx (by exact rfl) (by exact rfl) (by exact rfl) (by assumption) (by first | assumption | omega) ?_ | refine s_ld_row (by exact rfl) (by exact rfl) (by exact .tail _ (.tail _ (.head _))) (by assumption) ?_ | refine c_skip ?_ | refine k_blk ?_ | refine c_cond_f (by exact rfl) ?_
            refine c_round (j + 1, vq, part2, met2, out2, lab2) [1, 1, 1, 1, 1, 1] (by exact rfl) (by exact ⟨rfl, rfl, rfl, rfl, rfl, rfl, rfl, rfl, rfl, rfl, rfl, trivial⟩) ⟨by omega, hB, hB.old hA hS hu hmet, hP, hC, hmi, hli, hat2, hM2⟩ (by dsimp only; omega)
        · obtain rfl : j = (ab l x).length := by omega
          repeat' first
            | refine k_then ?_ | refine c_seq ?_ | refine c_region ?_ | refine s_nil ?_ | refine s_move (by exact rfl) (by exact rfl) ?_ | refine s_assign (by exact rfl) (by exact rfl) ?_ | refine s_lss (by exact rfl) (by exact rfl) (by exact rfl) ?_ | refine s_add (by exact rfl) (by exact rfl) (by exact rfl) (by omega) ?_ | refine c_exit ?_ | refine k_then_exit ?_ | refine k_blk ?_ | refine k_blk_eq ?_ | (refine c_cond_p (by exact rfl) (fun h => ?_) (fun h => ?_) <;> try (exfalso; omega))
          have hnl : (nb l x).length = (ab l x).length := by rw [← ab_fst, List.length_map]
          refine c_round (vq, part2, at0 + 1, met2, out2, lab2) [0, 0, 0, 0, 0, 0] (by exact rfl) (by exact ⟨rfl, rfl, rfl, rfl, rfl, rfl, rfl, rfl, trivial⟩) ⟨by dsimp only; omega, hB.pop (by rw [hnl]; exact hS), hP, hC, hmi, hli⟩ (by dsimp only; omega)
      · repeat' first
          | refine k_then ?_ | refine c_seq ?_ | refine c_region ?_ | refine s_nil ?_ | refine s_move (by exact rfl) (by exact rfl) ?_ | refine s_lss (by exact rfl) (by exact rfl) (by exact rfl) ?_ | refine s_len (by exact rfl) (by exact rfl) (by assumption) ?_ | refine c_exit ?_ | refine k_then_exit ?_ | refine k_blk_eq ?_ | (refine c_cond_p (by exact rfl) (fun h => ?_) (fun h => ?_) <;> try (exfalso; omega))
        have hdn : part.drop at0 = [] := List.drop_eq_nil_of_le (by omega)
        rw [hdn] at hB
        have hca := comps_add (N := N) hli hP.nodup hP.mem
        have hcl := compsL_length N i met lab
        rw [hC] at hca hcl
        refine s_lend [rowHP vp 3 1 part.length (nV part)] _ (by exact rfl) (by exact rfl) (by exact rfl) (fun w S h => nsort_row (sats_mem h.own (.head _)) (by omega)) ?_
        rintro _ _ ⟨rfl, rfl⟩
        repeat' first
          | refine k_then ?_ | refine c_region ?_ | refine s_nil ?_ | refine s_move (by exact rfl) (by exact rfl) ?_
        refine o_mk [vp] (by exact rfl) (by exact rfl) rfl ?_ ?_ (by simp) fun vt hvt => ?_
        · intro u hu
          obtain rfl : u = vp := by simpa using hu
          rw [← Array.length_toList, one_cells hvp.one]; rfl
        · simp
        rw [show ([vp].flatMap fun u => u.cells.toList) = [vp] from by simp [one_cells hvp.one]]
        skip
        refine o_append_row (i := 3) (by exact rfl) (by exact rfl) (by exact rfl) (by exact rfl) (by exact .head _) (by exact rfl) (by simp [hvp.one]) ?_ fun vr2 hvr2 => ?_
        · omega
        repeat' first
          | refine k_then ?_ | refine c_region ?_ | refine s_nil ?_ | refine s_move (by exact rfl) (by exact rfl) ?_ | refine s_assign (by exact rfl) (by exact rfl) ?_ | refine s_add (by exact rfl) (by exact rfl) (by exact rfl) (by omega) ?_ | refine k_blk ?_
        have e1 : rowHP vp 3 1 part.length (nV (part.mergeSort fun x y => decide (x ≤ y))) = rowN vp (part.mergeSort fun x y => decide (x ≤ y)) := by simp [rowN]
        refine c_pick [1, 1, 1, 1, 1, 1] (by exact rfl) ?_
        rw [e1]
        refine c_pushk 2 (by exact rfl) ?_
        refine c_round (i + 1, met, out, lab, vr2, hr0 ++ [vp]) [0, 0, 0, 0, 0] ?_ (by exact ⟨rfl, rfl, rfl, rfl, rfl, trivial⟩) ⟨by omega, hB.next hmi, ?_, fun u hu => by have := hP.le u hu; dsimp only; omega⟩ (by dsimp only; omega)
        · dsimp only
          rw [hca, kids_append hhr, List.length_append]
          rfl
        · dsimp only
          rw [hca, List.length_append, List.length_append, hhr]
          rfl
    · rw [hmet] at hmi
      repeat' first
        | refine k_then ?_ | refine c_seq ?_ | refine c_region ?_ | refine s_nil ?_ | refine s_move (by exact rfl) (by exact rfl) ?_ | refine s_assign (by exact rfl) (by exact rfl) ?_ | refine s_lss (by exact rfl) (by exact rfl) (by exact rfl) ?_ | refine s_add (by exact rfl) (by exact rfl) (by exact rfl) (by omega) ?_ | refine s_idx (by exact rfl) (by exact rfl) (by exact rfl) (by assumption) (by first | assumption | omega) ?_ | refine s_ld_row (by exact rfl) (by exact rfl) (by exact .head _) (by assumption) ?_ | refine c_block ?_ | refine c_skip ?_ | refine c_exit ?_ | refine k_then_exit ?_ | refine k_blk_eq ?_ | (refine c_cond_p (by exact rfl) (fun h => ?_) (fun h => ?_) <;> try (exfalso; omega)) | refine c_cond_t (by exact rfl) ?_
      have hne : lab i ≠ i := by have := hLt i hmet; omega
      have hcn := comps_next (N := N) (met := met) hne
      refine c_round (i + 1, met, out, lab, vr, hr0) [0, 0, 0, 0, 0] (by dsimp only; rw [hcn]; rfl) (by exact ⟨rfl, rfl, rfl, rfl, rfl, trivial⟩) ⟨by omega, hB.next hmet, by dsimp only; rw [hcn]; exact hhr, fun u hu => by have := hLt u hu; dsimp only; omega⟩ (by dsimp only; omega)
  · repeat' first
      | refine k_then ?_ | refine c_seq ?_ | refine c_region ?_ | refine s_nil ?_ | refine s_move (by exact rfl) (by exact rfl) ?_ | refine s_assign (by exact rfl) (by exact rfl) ?_ | refine s_lss (by exact rfl) (by exact rfl) (by exact rfl) ?_ | refine c_exit ?_ | refine c_ret ?_ | refine k_then_exit ?_ | refine k_blk_eq ?_ | (refine c_cond_p (by exact rfl) (fun h => ?_) (fun h => ?_) <;> try (exfalso; omega))
    obtain rfl : i = N := by omega
    refine ret1 [1, 1] rfl rfl rfl ⟨met, out, lab, hr0, hB, hhr, rfl⟩
end Go.Proofs.YtpajjnkmaebhcabGreat
end
section
namespace Fil
/-- those of a list of lists whose first is kept -/
def selL (kept : List Bool) (cs : List (List Nat)) : List (List Nat) := cs.filter fun c => kept.getD (c.headD 0) false
theorem selL_take {kept : List Bool} {cs : List (List Nat)} {i : Nat} {c : List Nat} (h : cs[i]? = some c) : selL kept (cs.take (i + 1)) = selL kept (cs.take i) ++ (if kept.getD (c.headD 0) false then [c] else []) := by
  rw [List.take_add_one, h, selL, List.filter_append]
  simp only [Option.toList_some, List.filter_cons, List.filter_nil]
  rfl
theorem selL_length (kept : List Bool) (cs : List (List Nat)) (i : Nat) : (selL kept (cs.take i)).length ≤ i := by
  have h1 := List.length_filter_le (fun c : List Nat => kept.getD (c.headD 0) false) (cs.take i)
  rw [List.length_take] at h1
  rw [selL]
  omega
end Fil
namespace Go.Proofs.YtpajjnkmaebhcabGreat
open Go.RowKit Go.Sl Fil
set_option maxRecDepth 100000
set_option maxHeartbeats 8000000
set_option linter.unusedVariables false
set_option linter.unusedSimpArgs false
attribute [local irreducible] Code.wp wpList bodyPost wpQuiet Exit.then Exit.inBlock Post wpAnyH wpOp
end Go.Proofs.YtpajjnkmaebhcabGreat
end
section
set_option linter.unusedVariables false
namespace Fil
open Go.Proofs.YtpajjnkmaebhcabGreat (keepE)
theorem mem_tn {es : List E} {u v : Nat} : (u, v) ∈ tn es ↔ ∃ e ∈ es, e.1.toNat = u ∧ e.2.1.toNat = v := by
  simp only [tn, List.mem_map, Prod.mk.injEq]
theorem RightG.tn_ne {n : Int} {es : List E} (h : RightG n es) : ∀ e ∈ tn es, e.1 ≠ e.2 := fun e he => by
  have := h.good.lt e he; omega
theorem only_edge {n : Int} {es : List E} {kept : List Bool} (hR : RightG n es) {u v : Nat} : u ∈ nb (tn (es.filter (keepE kept))) v ↔ kept.getD u false = true ∧ kept.getD v false = true ∧ u ∈ nb (tn es) v := by
  rw [mem_nb (hR.filter _).tn_ne, mem_nb hR.tn_ne]
  simp only [mem_tn, List.mem_filter, keepE, Bool.and_eq_true]
  constructor
  · rintro (⟨e, ⟨h1, h2, h3⟩, rfl, rfl⟩ | ⟨e, ⟨h1, h2, h3⟩, rfl, rfl⟩)
    · exact ⟨h3, h2, .inl ⟨e, h1, rfl, rfl⟩⟩
    · exact ⟨h2, h3, .inr ⟨e, h1, rfl, rfl⟩⟩
  · rintro ⟨h1, h2, ⟨e, h3, rfl, rfl⟩ | ⟨e, h3, rfl, rfl⟩⟩
    · exact .inl ⟨e, ⟨h3, h2, h1⟩, rfl, rfl⟩
    · exact .inr ⟨e, ⟨h3, h1, h2⟩, rfl, rfl⟩
theorem thin_kept {n : Int} {es : List E} {kept : List Bool} {o' lab' : Nat → Nat} (hR : RightG n es) (h : Lev n.toNat (nb (tn (es.filter (keepE kept)))) o' lab') {v : Nat} (hv : v < n.toNat) : kept.getD v false = kept.getD (lab' v) false := by
  have := h.conn v hv (fun v => if kept.getD v false = true then 1 else 0) fun w hw u hu => by
    obtain ⟨h1, h2, _⟩ := (only_edge hR).1 hu
    simp only [h1, h2]
  cases h1 : kept.getD v false <;> cases h2 : kept.getD (lab' v) false <;> simp only [h1, h2, Bool.false_eq_true, if_true, if_false, reduceCtorEq] at this ⊢ <;> omega
theorem sel_mem {N : Nat} {kept : List Bool} {lab : Nat → Nat} (hle : ∀ v, v < N → lab v ≤ v) {c : List Nat} (h : c ∈ selL kept (compsS N lab)) : ∃ r t, r < N ∧ c = r :: t ∧ kept.getD r false = true ∧ lab r = r ∧ ∀ v, v ∈ c ↔ v < N ∧ lab v = r := by
  obtain ⟨h1, h2⟩ := List.mem_filter.1 h
  obtain ⟨r, hr, hl, rfl⟩ := comp_mem h1
  obtain ⟨t, ht⟩ := comp_head hr hl hle
  refine ⟨r, t, hr, ht, by rw [ht] at h2; exact h2, hl, fun v => by simp⟩
theorem sel_nodup {N : Nat} {kept : List Bool} {lab : Nat → Nat} {c : List Nat} (h : c ∈ selL kept (compsS N lab)) : c.Nodup := by
  obtain ⟨r, hr, hl, rfl⟩ := comp_mem (List.mem_filter.1 h).1
  exact List.nodup_range.filter _
theorem sel_apart {N : Nat} {kept : List Bool} {lab : Nat → Nat} {i j v : Nat} {c d : List Nat} (hi : (selL kept (compsS N lab))[i]? = some c) (hj : (selL kept (compsS N lab))[j]? = some d) (hc : v ∈ c) (hd : v ∈ d) : i = j := by
  have hp : (selL kept (compsS N lab)).Pairwise fun c d => ∀ v, v ∈ c → v ∈ d → False := by
    refine List.Pairwise.filter _ ?_
    rw [compsS, compsI, List.pairwise_map]
    refine List.Pairwise.imp ?_ (List.nodup_range.filter _)
    intro a b hab v h1 h2
    have h1 := (List.mem_filter.1 h1).2
    have h2 := (List.mem_filter.1 h2).2
    simp at h1 h2
    omega
  rw [List.pairwise_iff_getElem] at hp
  obtain ⟨hi1, rfl⟩ := List.getElem?_eq_some_iff.1 hi
  obtain ⟨hj1, rfl⟩ := List.getElem?_eq_some_iff.1 hj
  rcases Nat.lt_trichotomy i j with h | h | h
  · exact (hp i j hi1 hj1 h v hc hd).elim
  · exact h
  · exact (hp j i hj1 hi1 h v hd hc).elim
theorem sel_edge {n : Int} {es : List E} {kept : List Bool} {o' lab' : Nat → Nat} (hR : RightG n es) (h : Lev n.toNat (nb (tn (es.filter (keepE kept)))) o' lab') {c d : List Nat} (hc : c ∈ selL kept (compsS n.toNat lab')) (hd : d ∈ selL kept (compsS n.toNat lab')) {u v : Nat} (hu : u ∈ c) (hv : v ∈ d) (huv : v ∈ nb (tn es) u) : v ∈ c := by
  obtain ⟨r, t, hr, rfl, hkr, hlr, hm⟩ := sel_mem h.le hc
  obtain ⟨q, t', hq, rfl, hkq, hlq, hm'⟩ := sel_mem h.le hd
  obtain ⟨hu1, hu2⟩ := (hm u).1 hu
  obtain ⟨hv1, hv2⟩ := (hm' v).1 hv
  have ku : kept.getD u false = true := by rw [thin_kept hR h hu1, hu2]; exact hkr
  have kv : kept.getD v false = true := by rw [thin_kept hR h hv1, hv2]; exact hkq
  have := (h.edge u hu1 v ((only_edge hR).2 ⟨kv, ku, huv⟩)).1
  exact (hm v).2 ⟨hv1, by rw [this, hu2]⟩
/-- what has been marked: those of the lists before the x-th, and y of that one -/
def Marked (cs : List (List Nat)) (x y : Nat) (l : List Nat) : Prop := ∀ v, l.getD v 0 ≠ 0 → ∃ j c, cs[j]? = some c ∧ l.getD v 0 = j + 1 ∧ v ∈ c ∧ (j < x ∨ j = x ∧ v ∈ c.take y)
theorem Marked.zero {N : Nat} {kept : List Bool} {lab : Nat → Nat} {x y v : Nat} {l c : List Nat} (h : Marked (selL kept (compsS N lab)) x y l) (hc : (selL kept (compsS N lab))[x]? = some c) (hv : c[y]? = some v) : l.getD v 0 = 0 := by
  refine Decidable.byContradiction fun h0 => ?_
  obtain ⟨j, d, hj, _, hvd, h1⟩ := h v h0
  have := sel_apart hj hc hvd (List.mem_of_getElem? hv)
  rcases h1 with h1 | ⟨_, h1⟩
  · omega
  · subst this
    rw [hc] at hj
    obtain rfl : c = d := by simpa using hj
    have hn := sel_nodup (List.mem_of_getElem? hc)
    obtain ⟨i, hi⟩ := List.mem_iff_getElem?.1 h1
    rw [List.getElem?_take] at hi
    split at hi
    · rename_i hlt
      obtain ⟨h3, h4⟩ := List.getElem?_eq_some_iff.1 hi
      obtain ⟨h5, h6⟩ := List.getElem?_eq_some_iff.1 hv
      have hne := List.pairwise_iff_getElem.1 hn i y h3 h5 hlt
      exact hne (by rw [h4, h6])
    · simp at hi
theorem Marked.put {cs : List (List Nat)} {x y v : Nat} {l c : List Nat} (h : Marked cs x y l) (hc : cs[x]? = some c) (hv : c[y]? = some v) : Marked cs x (y + 1) (l.set v (x + 1)) := by
  intro u hu
  rw [getD_set] at hu ⊢
  split
  · rename_i e
    obtain ⟨rfl, _⟩ := e
    exact ⟨x, c, hc, rfl, List.mem_of_getElem? hv, .inr ⟨rfl, by rw [List.take_add_one, hv]; simp⟩⟩
  · rename_i e
    rw [if_neg e] at hu
    obtain ⟨j, d, h1, h2, h3, h4⟩ := h u hu
    refine ⟨j, d, h1, h2, h3, h4.imp id fun ⟨h5, h6⟩ => ⟨h5, ?_⟩⟩
    rw [List.take_add_one]
    exact List.mem_append.2 (.inl h6)
theorem Marked.next {cs : List (List Nat)} {x y : Nat} {l : List Nat} (h : Marked cs x y l) : Marked cs (x + 1) 0 l := by
  intro u hu
  obtain ⟨j, d, h1, h2, h3, h4⟩ := h u hu
  exact ⟨j, d, h1, h2, h3, .inl (by rcases h4 with h4 | ⟨h4, _⟩ <;> omega)⟩
theorem Marked.init (cs : List (List Nat)) (N : Nat) : Marked cs 0 0 (List.replicate N 0) := by
  intro u hu
  simp only [List.getD_eq_getElem?_getD, List.getElem?_replicate] at hu
  split at hu <;> simp at hu
end Fil
end
section
namespace Fil
theorem MaxIn.congr {nb : Nat → List Nat} {N : Nat} {k k' : Nat → Bool} {a : List Nat} (h : MaxIn nb N k a) (hk : ∀ u, u < N → k u = k' u) : MaxIn nb N k' a :=
  ⟨h.ind, fun u hu => ⟨(h.mem u hu).1, by rw [← hk u (h.mem u hu).1]; exact (h.mem u hu).2⟩, fun Y hY hm => h.top Y hY fun u hu => ⟨(hm u hu).1, by rw [hk u (hm u hu).1]; exact (hm u hu).2⟩⟩
theorem MaxIn.length {nb : Nat → List Nat} {N : Nat} {k : Nat → Bool} {a : List Nat} (h : MaxIn nb N k a) : a.length ≤ N := nodup_length h.ind.nd fun u hu => (h.mem u hu).1
theorem Ind.perm {nb : Nat → List Nat} {C : Nat → Bool} {a b : List Nat} (h : Ind nb a C) (hp : b.Perm a) : Ind nb b C :=
  ⟨hp.nodup_iff.2 h.nd, fun u hu v hv => h.no u (hp.mem_iff.1 hu) v (hp.mem_iff.1 hv), fun u hu => h.out u (hp.mem_iff.1 hu)⟩
theorem MaxIn.perm {nb : Nat → List Nat} {N : Nat} {k : Nat → Bool} {a b : List Nat} (h : MaxIn nb N k a) (hp : b.Perm a) : MaxIn nb N k b :=
  ⟨h.ind.perm hp, fun u hu => h.mem u (hp.mem_iff.1 hu), fun Y hY hm => by rw [hp.length_eq]; exact h.top Y hY hm⟩
theorem MaxIn.join {nb nb2 : Nat → List Nat} {N : Nat} {k1 k2 : Nat → Bool} {a b : List Nat} (h1 : MaxIn nb N k1 a) (h2 : MaxIn nb2 N k2 b) (hnb : ∀ u v, u < N → v < N → k2 u = true → k2 v = true → (u ∈ nb v ↔ u ∈ nb2 v))
    (hx : ∀ u v, u < N → v < N → k1 u = true → k2 v = true → u ∉ nb v ∧ v ∉ nb u) (hd : ∀ u, u < N → k1 u = true → k2 u = false) : MaxIn nb N (fun u => k1 u || k2 u) (a ++ b) := by
  refine ⟨⟨?_, ?_, fun _ _ _ _ => rfl⟩, ?_, ?_⟩
  · refine List.nodup_append.2 ⟨h1.ind.nd, h2.ind.nd, fun u hu v hv e => ?_⟩
    subst e
    have e1 := hd u (h1.mem u hu).1 (h1.mem u hu).2
    rw [(h2.mem u hv).2] at e1; simp at e1
  · intro u hu v hv
    rcases List.mem_append.1 hu with hu | hu
    · have u1 := h1.mem u hu
      rcases List.mem_append.1 hv with hv | hv
      · exact h1.ind.no u hu v hv
      · have v1 := h2.mem v hv
        exact (hx u v u1.1 v1.1 u1.2 v1.2).1
    · have u1 := h2.mem u hu
      rcases List.mem_append.1 hv with hv | hv
      · have v1 := h1.mem v hv
        exact (hx v u v1.1 u1.1 v1.2 u1.2).2
      · have v1 := h2.mem v hv
        rw [hnb u v u1.1 v1.1 u1.2 v1.2]
        exact h2.ind.no u hu v hv
  · intro u hu
    rcases List.mem_append.1 hu with hu | hu
    · exact ⟨(h1.mem u hu).1, by simp [(h1.mem u hu).2]⟩
    · exact ⟨(h2.mem u hu).1, by simp [(h2.mem u hu).2]⟩
  · intro Y hY hm
    have e1 : Y.length = (Y.filter k1).length + (Y.filter fun u => !k1 u).length := by
      rw [← List.countP_eq_length_filter, ← List.countP_eq_length_filter]
      have := List.length_eq_countP_add_countP k1 (l := Y)
      simpa using this
    have e2 : (Y.filter k1).length ≤ a.length := h1.top _ ⟨hY.nd.filter _, fun u hu v hv => hY.no u (List.mem_filter.1 hu).1 v (List.mem_filter.1 hv).1, fun _ _ _ _ => rfl⟩ fun u hu => ⟨(hm u (List.mem_filter.1 hu).1).1, (List.mem_filter.1 hu).2⟩
    have hk2 : ∀ u ∈ Y.filter fun u => !k1 u, u < N ∧ k2 u = true := fun u hu => by
      obtain ⟨f1, f2⟩ := List.mem_filter.1 hu
      obtain ⟨g1, g2⟩ := hm u f1
      refine ⟨g1, ?_⟩
      have : k1 u = false := by simpa using f2
      simpa [this] using g2
    have e3 : (Y.filter fun u => !k1 u).length ≤ b.length := h2.top _ ⟨hY.nd.filter _, fun u hu v hv => by
      have a1 := hk2 u hu
      have a2 := hk2 v hv
      rw [← hnb u v a1.1 a2.1 a1.2 a2.2]
      exact hY.no u (List.mem_filter.1 hu).1 v (List.mem_filter.1 hv).1, fun _ _ _ _ => rfl⟩ hk2
    rw [List.length_append]
    omega
def rootsL (N : Nat) (lab : Nat → Nat) : List Nat := (List.range N).filter fun v => lab v == v
theorem compsS_get {N : Nat} {lab : Nat → Nat} {i : Nat} {c : List Nat} (h : (compsS N lab)[i]? = some c) : ∃ r, (rootsL N lab)[i]? = some r ∧ r < N ∧ lab r = r ∧ c = (List.range N).filter fun u => lab u == r := by
  rw [compsS, compsI, List.getElem?_map, Option.map_eq_some_iff] at h
  obtain ⟨r, h1, rfl⟩ := h
  obtain ⟨h2, h3⟩ := List.mem_filter.1 (List.mem_of_getElem? h1)
  exact ⟨r, h1, by simpa using h2, by simpa using h3, rfl⟩
end Fil
namespace Go.Proofs.YtpajjnkmaebhcabGreat
open Go Go.RowKit Go.Sl Fil
set_option maxRecDepth 100000
set_option maxHeartbeats 8000000
set_option linter.unusedVariables false
set_option linter.unusedSimpArgs false
attribute [local irreducible] Code.wp wpList bodyPost wpQuiet Exit.then Exit.inBlock Post wpAnyH wpOp
theorem Max_ok (n : Int) (v : Value) (es : List E) (w : World) (hs : Shp v es.length) (hr : RO w No v (esV es)) (hR : RightG n es) (h39 : n ≤ 39) :
    Calls Tryz.prog 45 #[.agg #[.int .i64 n, v]] w (Post w No fun r L' => ∃ (vo : Value) (l : List Nat), r = .tuple #[vo, .int .i64 0] ∧ L' = [rowHP vo 3 1 l.length (nV l)] ∧ Asc l ∧ MaxIn (nearS (tn es)) n.toNat (fun _ => true) l) := by
  have hR0 := right_iff.2 hR
  have hlo := hR.lo
  have hm : es.length < 4611686018427387904 := by have := hR.many; omega
  refine enter0 (vs := [_]) Tryz.func45 rfl Tryz.ntmps45 rfl ?_
  repeat' first
    | refine k_then ?_ | refine c_seq ?_ | refine c_region ?_ | refine s_nil ?_ | refine s_assign (by exact rfl) (by exact rfl) ?_ | refine s_ldk_box (by exact rfl) (by exact rfl) (by exact .head _) (by exact rfl) (by exact rfl) ?_ | refine o_box (by exact rfl) (by exact rfl) (fun b => ?_)
  revert b; intro b1
  refine s_call (by exact rfl) (by exact rfl) (fun w h => Right_ok n v es w hs (ro_old h hr) hm) ?_
  rw [hR0]
  repeat' first
    | refine k_then ?_ | refine c_seq ?_ | refine c_region ?_ | refine s_nil ?_ | refine s_neq (by exact rfl) (by exact rfl) (by exact rfl) ?_ | refine s_ldk_box (by exact rfl) (by exact rfl) (by exact .head _) (by exact rfl) (by exact rfl) ?_ | refine c_skip ?_ | (refine c_cond_p (by exact rfl) (fun h => ?_) (fun h => ?_) <;> try (exfalso; omega))
  refine o_call (by exact rfl) (by exact rfl) (fun w h => Components_ok n v es w hs (ro_old h hr) hR) ?_
  rintro vc _ ⟨met, out0, lab, hc, hBfs, hcl, rfl⟩
  rw [hBfs.comps] at hcl ⊢
  have hLev := hBfs.lev
  refine know_row (v := vc) (.head _) fun hvc _ => ?_
  generalize hN : n.toNat = N at *
  have hnN : n = (N : Int) := by omega
  subst hnN
  have hedge : ∀ u v, u < N → v < N → u ∈ nearS (tn es) v → lab u = lab v := fun u v hu hv h => (hLev.edge v hv u (mem_nearS.1 h)).1
  have hcN : (compsS N lab).length ≤ N := compsI_length N N lab
  repeat' first
    | refine k_then ?_ | refine s_nil ?_ | refine s_move (by exact rfl) (by exact rfl) ?_ | refine s_len (by exact rfl) (by exact rfl) (by assumption) ?_ | refine c_block ?_
  refine c_nil 3 1 ?_
  refine c_loop (fun x : Nat × List Nat × Value => x.1 ≤ (compsS N lab).length ∧ MaxIn (nearS (tn es)) N (fun u => decide (lab u ∈ (rootsL N lab).take x.1)) x.2.1) (fun x => [(1, .pointer (some ⟨b1, 0, none⟩)), (2, x.2.2), (3, .int .i64 0), (13, vc), (14, .int .i64 ((compsS N lab).length : Int)), (15, .int .i64 (x.1 : Int))])
    (fun x => [rowHP x.2.2 3 1 x.2.1.length (nV x.2.1), rowHP vc 28 1 (compsS N lab).length hc, starHP (kids rowN hc (compsS N lab)), boxHP b1 24 [.int .i64 (N : Int), v]]) (fun x => (compsS N lab).length - x.1) (0, [], .slice none 0 0) [0, 0, 0, 0] ⟨Nat.zero_le _, ?_⟩ (by exact rfl) ⟨rfl, rfl, rfl, rfl, rfl, rfl, trivial⟩ ?_
  · refine ⟨⟨.nil, by simp, by simp⟩, by simp, fun Y hY hm => ?_⟩
    cases Y with
    | nil => exact Nat.le_refl _
    | cons a Y => have := (hm a (.head _)).2; simp at this
  rintro ⟨i, out, vo⟩ ⟨hi, hMx⟩
  dsimp only at hi hMx ⊢
  have hol := hMx.length
  by_cases hil : i < (compsS N lab).length
  · obtain ⟨c, hci⟩ : ∃ c, (compsS N lab)[i]? = some c := ⟨_, List.getElem?_eq_getElem hil⟩
    obtain ⟨hd, hhd⟩ : ∃ hd, hc[i]? = some hd := ⟨_, List.getElem?_eq_getElem (by omega)⟩
    have hhd1 : hc[i * 1]? = some hd := by simpa using hhd
    obtain ⟨r, hri, hrN, hrr, hcr⟩ := compsS_get hci
    have hcm : ∀ u, u ∈ c ↔ u < N ∧ lab u = r := fun u => by rw [hcr]; simp
    have hK : rowHP hd 3 1 c.length (nV c) ∈ kids rowN hc (compsS N lab) := kids_mem (f := rowN) (l := c) hhd hci
    refine know_kid (Ks := kids rowN hc (compsS N lab)) (.tail _ (.tail _ (.head _))) hK fun hhs _ => ?_
    have hcle : c.length ≤ N := by rw [hcr]; exact row_length N r lab
    clear hcr
    repeat' first
      | refine k_then ?_ | refine c_seq ?_ | refine c_region ?_ | refine s_nil ?_ | refine s_assign (by exact rfl) (by exact rfl) ?_ | refine s_fa (by exact rfl) (by exact rfl) ?_ | refine s_ld_box (by exact rfl) (by exact rfl) (by exact .tail _ (.tail _ (.tail _ (.head _)))) (by exact rfl) ?_ | refine s_lss (by exact rfl) (by exact rfl) (by exact rfl) ?_ | refine s_idx (by exact rfl) (by exact rfl) (by exact rfl) (by assumption) (by first | assumption | omega) ?_ | refine s_ld_row (by exact rfl) (by exact rfl) (by exact .tail _ (.head _)) (by assumption) ?_ | refine c_block ?_ | refine c_skip ?_ | (refine c_cond_p (by exact rfl) (fun h => ?_) (fun h => ?_) <;> try (exfalso; omega))
    refine o_make (by exact rfl) (by exact rfl) (by exact rfl) (by omega) (by omega) fun vk hvk => ?_
    rw [bVz]
    repeat' first
      | refine k_then ?_ | refine c_seq ?_ | refine c_region ?_ | refine s_nil ?_ | refine s_move (by exact rfl) (by exact rfl) ?_ | refine s_assign (by exact rfl) (by exact rfl) ?_ | refine s_len (by exact rfl) (by exact rfl) (by assumption) ?_ | refine c_block ?_
    have hvk : Shp vk N := hvk
    have hgl : ∀ l : List Nat, (goneL (List.replicate N false) l).length = N := fun l => by rw [goneL_length, List.length_replicate]
    refine c_loop (fun j : Nat => j ≤ c.length) (fun j => [(1, .pointer (some ⟨b1, 0, none⟩)), (2, vo), (3, .int .i64 0), (13, vc), (14, .int .i64 ((compsS N lab).length : Int)), (15, .int .i64 (i : Int)), (5, hd), (6, vk), (22, hd), (23, .int .i64 (c.length : Int)), (24, .int .i64 (j : Int))])
      (fun j => [rowHP vk 4 1 N (bV (goneL (List.replicate N false) (c.take j))), rowHP vo 3 1 out.length (nV out), rowHP vc 28 1 (compsS N lab).length hc, starHP (kids rowN hc (compsS N lab)), boxHP b1 24 [.int .i64 (N : Int), v]]) (fun j => c.length - j) 0 [0, 0, 0, 0, 0] (Nat.zero_le _) (by exact rfl) ⟨rfl, rfl, rfl, rfl, rfl, rfl, rfl, rfl, rfl, rfl, rfl, trivial⟩ ?_
    intro j hj
    by_cases hjl : j < c.length
    · obtain ⟨u, hu⟩ : ∃ u, c[j]? = some u := ⟨_, List.getElem?_eq_getElem hjl⟩
      have hcu : (nV c)[j * 1]? = some (.int .i64 (u : Int)) := by simp [nV, hu]
      have huN : u < N := ((hcm u).1 (List.mem_of_getElem? hu)).1
      repeat' first
        | refine k_then ?_ | refine c_seq ?_ | refine c_region ?_ | refine s_nil ?_ | refine s_move (by exact rfl) (by exact rfl) ?_ | refine s_assign (by exact rfl) (by exact rfl) ?_ | refine s_lss (by exact rfl) (by exact rfl) (by exact rfl) ?_ | refine s_idx (by exact rfl) (by exact rfl) (by exact rfl) (by assumption) (by first | assumption | omega) ?_ | refine s_ld_kid (by exact rfl) (by exact rfl) (by assumption) (by exact .tail _ (.tail _ (.tail _ (.head _)))) (by assumption) ?_ | refine c_block ?_ | refine c_skip ?_ | (refine c_cond_p (by exact rfl) (fun h => ?_) (fun h => ?_) <;> try (exfalso; omega))
      refine o_st_row (i := 0) (by exact rfl) (by exact rfl) (by exact rfl) rfl (by omega) ?_
      repeat' first
        | refine k_then ?_ | refine c_region ?_ | refine s_nil ?_ | refine s_move (by exact rfl) (by exact rfl) ?_ | refine s_add (by exact rfl) (by exact rfl) (by exact rfl) (by omega) ?_ | refine k_blk ?_
      refine c_round (j + 1) [0, 0, 0, 0, 0] (by rw [List.take_add_one, hu, Option.toList_some, goneL_snoc, ← bV_set]; exact rfl) ⟨rfl, rfl, rfl, rfl, rfl, rfl, rfl, rfl, rfl, rfl, rfl, trivial⟩ (by omega) (by omega)
    · rw [List.take_of_length_le (by omega)]
      have hkm : ∀ u, u < N → ((goneL (List.replicate N false) c).getD u false = decide (lab u = r)) := fun u hu => by
        rw [Bool.eq_iff_iff, goneL_get (fun a ha => by rw [List.length_replicate]; exact ((hcm a).1 ha).1), hcm, decide_eq_true_eq]
        simp [List.getD_eq_getElem?_getD, List.getElem?_replicate, hu]
      have hkl := hgl c
      generalize goneL (List.replicate N false) c = ks at *
      have hRf := hR.filter (keepE ks)
      repeat' first
        | refine k_then ?_ | refine c_seq ?_ | refine c_region ?_ | refine s_nil ?_ | refine s_move (by exact rfl) (by exact rfl) ?_ | refine s_lss (by exact rfl) (by exact rfl) (by exact rfl) ?_ | refine s_ldk_box (by exact rfl) (by exact rfl) (by exact .tail _ (.tail _ (.tail _ (.tail _ (.head _))))) (by exact rfl) (by exact rfl) ?_ | refine c_exit ?_ | refine k_then_exit ?_ | refine k_blk_eq ?_ | (refine c_cond_p (by exact rfl) (fun h => ?_) (fun h => ?_) <;> try (exfalso; omega))
      refine o_call (by exact rfl) (by exact rfl) (fun w h => Only_ok N v es vk ks w hs (ro_old h hr) hR (by rw [hkl]; exact hvk) (ro_own h (by rw [hkl] at *; exact .head _))) ?_
      rintro _ _ ⟨vf, rfl, rfl⟩
      refine know_row (v := vf) (.head _) fun hvf _ => ?_
      repeat' first
        | refine s_move (by exact rfl) (by exact rfl) ?_
      refine o_call (by exact rfl) (by exact rfl) (fun w h => piece_ok N vf vk (es.filter (keepE ks)) ks w hvf (ro_own h (.head _)) hRf h39 (by rw [hkl]; exact hvk) (ro_own h (by rw [hkl] at *; exact .tail _ (.head _))) (by rw [hkl]; omega) (fun a u hu => ((only_edge hR).1 (mem_nearS.1 hu)).1)) ?_
      rintro vp _ ⟨oc, rfl, hMc⟩
      rw [Int.toNat_natCast] at hMc
      have hocl := hMc.length
      have hMn := hMx.join hMc (fun u v hu hv h1 h2 => by
          rw [mem_nearS, mem_nearS, only_edge hR]
          exact ⟨fun h => ⟨h1, h2, h⟩, fun h => h.2.2⟩) (fun u v hu hv h1 h2 => by
          rw [hkm v hv] at h2
          have hne : lab u ≠ lab v := fun e => by
            have h1 := of_decide_eq_true h1
            rw [e, of_decide_eq_true h2] at h1
            obtain ⟨q, hq⟩ := List.mem_iff_getElem?.1 h1
            rw [List.getElem?_take] at hq
            split at hq
            · have hnd : (rootsL N lab).Nodup := List.nodup_range.filter _
              have := (List.getElem?_inj (List.getElem?_eq_some_iff.1 hq).1 hnd).1 (hq.trans hri.symm)
              omega
            · simp at hq
          exact ⟨fun h => hne (hedge u v hu hv h), fun h => hne (hedge v u hv hu h).symm⟩) (fun u hu h1 => by
          rw [hkm u hu]
          refine decide_eq_false fun e => ?_
          have h1 := of_decide_eq_true h1
          rw [e] at h1
          obtain ⟨q, hq⟩ := List.mem_iff_getElem?.1 h1
          rw [List.getElem?_take] at hq
          split at hq
          · have hnd : (rootsL N lab).Nodup := List.nodup_range.filter _
            have := (List.getElem?_inj (List.getElem?_eq_some_iff.1 hq).1 hnd).1 (hq.trans hri.symm)
            omega
          · simp at hq)
      have hMn2 := hMn.congr (k' := fun u => decide (lab u ∈ (rootsL N lab).take (i + 1))) fun u hu => by
        rw [hkm u hu, List.take_add_one, hri, Bool.eq_iff_iff]
        simp
      skip
      refine o_append_row (i := 3) (by exact rfl) (by exact rfl) (by exact rfl) (by exact rfl) (by exact .head _) (by simp [nV]) (nV_one _) (by omega) fun vo2 hvo2 => ?_
      repeat' first
        | refine k_then ?_ | refine c_region ?_ | refine s_nil ?_ | refine s_move (by exact rfl) (by exact rfl) ?_ | refine s_assign (by exact rfl) (by exact rfl) ?_ | refine s_add (by exact rfl) (by exact rfl) (by exact rfl) (by omega) ?_ | refine k_blk ?_
      refine c_round (i + 1, out ++ oc, vo2) [3, 3, 3, 3] ?_ ⟨rfl, rfl, rfl, rfl, rfl, rfl, trivial⟩ ⟨by dsimp only; omega, hMn2⟩ (by dsimp only; omega)
      dsimp only
      rw [show nV (out ++ oc) = nV out ++ nV oc by simp [nV], List.length_append]
      rfl
  · have hMf := hMx.congr (k' := fun _ => true) fun u hu => by
      rw [decide_eq_true_eq]
      obtain rfl : i = (compsS N lab).length := by omega
      rw [List.take_of_length_le (by simp [compsS, compsI, rootsL])]
      refine List.mem_filter.2 ⟨List.mem_range.2 ?_, by simpa using hLev.idem u hu⟩
      have := hLev.le u hu; omega
    repeat' first
      | refine k_then ?_ | refine c_seq ?_ | refine c_region ?_ | refine s_nil ?_ | refine s_move (by exact rfl) (by exact rfl) ?_ | refine s_lss (by exact rfl) (by exact rfl) (by exact rfl) ?_ | refine c_exit ?_ | refine k_then_exit ?_ | refine k_blk_eq ?_ | (refine c_cond_p (by exact rfl) (fun h => ?_) (fun h => ?_) <;> try (exfalso; omega))
    refine s_lend [rowHP vo 3 1 out.length (nV out)] _ (by exact rfl) (by exact rfl) (by exact rfl) (fun w S h => nsort_row (sats_mem h.own (.head _)) (by omega)) ?_
    rintro _ _ ⟨rfl, rfl⟩
    repeat' first
      | refine k_then ?_ | refine c_seq ?_ | refine c_region ?_ | refine s_nil ?_ | refine s_move (by exact rfl) (by exact rfl) ?_ | refine s_assign (by exact rfl) (by exact rfl) ?_ | refine c_ret ?_
    refine ret2 [0] rfl rfl rfl (by exact rfl) ⟨vo, sortN out, rfl, ?_, sortN_asc hMf.ind.nd, hMf.perm (sortN_perm out)⟩
    rw [(sortN_perm out).length_eq]
    rfl
end Go.Proofs.YtpajjnkmaebhcabGreat
end
section
set_option linter.unusedVariables false
namespace Fil
open Go.Proofs.YtpajjnkmaebhcabGreat (keepE)
def inP (p : List Nat) (e : E) : Bool := decide (e.1.toNat ∈ p) && decide (e.2.1.toNat ∈ p)
def renE (p : List Nat) (e : E) : E := ((p.idxOf e.1.toNat : Int), (p.idxOf e.2.1.toNat : Int), e.2.2)
def renL (p : List Nat) (es : List E) : List E := (es.filter (inP p)).map (renE p)
theorem renL_snoc {p : List Nat} {es : List E} {k : Nat} {e : E} (h : es[k]? = some e) : renL p (es.take (k + 1)) = renL p (es.take k) ++ (if inP p e = true then [renE p e] else []) := by
  rw [List.take_add_one, h, renL, Option.toList_some, List.filter_append, List.map_append, List.filter_cons, List.filter_nil, ← renL]
  split <;> rfl
theorem renL_length (p : List Nat) (es : List E) : (renL p es).length ≤ es.length := by
  rw [renL, List.length_map]; exact List.length_filter_le _ _
theorem asc_idx {p : List Nat} (h : Asc p) {u v : Nat} (hu : u ∈ p) (hv : v ∈ p) : p.idxOf u < p.idxOf v ↔ u < v := by
  have h1 := List.idxOf_lt_length_iff.2 hu
  have h2 := List.idxOf_lt_length_iff.2 hv
  have e1 : p[p.idxOf u]? = some u := by rw [List.getElem?_eq_getElem h1, List.getElem_idxOf]
  have e2 : p[p.idxOf v]? = some v := by rw [List.getElem?_eq_getElem h2, List.getElem_idxOf]
  constructor
  · exact h.get e1 e2
  · intro hlt
    rcases Nat.lt_trichotomy (p.idxOf u) (p.idxOf v) with h3 | h3 | h3
    · exact h3
    · rw [h3, e2] at e1
      have := Option.some.inj e1; omega
    · have := h.get e2 e1 h3; omega
theorem idx_inj {p : List Nat} {u v : Nat} (hu : u ∈ p) (hv : v ∈ p) (h : p.idxOf u = p.idxOf v) : u = v := by
  have h1 := List.idxOf_lt_length_iff.2 hu
  have e1 : p[p.idxOf u]? = some u := by rw [List.getElem?_eq_getElem h1, List.getElem_idxOf]
  have h2 := List.idxOf_lt_length_iff.2 hv
  have e2 : p[p.idxOf v]? = some v := by rw [List.getElem?_eq_getElem h2, List.getElem_idxOf]
  rw [h, e2] at e1
  exact (Option.some.inj e1).symm
theorem renL_right {n : Int} {es : List E} (hR : RightG n es) {p : List Nat} (h : Asc p) (hp : p.length ≤ 1048576) : RightG (p.length : Int) (renL p es) where
  lo := by omega
  hi := by omega
  many := by have := renL_length p es; have := hR.many; omega
  ok e he := by
    obtain ⟨x, hx, rfl⟩ := List.mem_map.1 he
    obtain ⟨h1, h2⟩ := List.mem_filter.1 hx
    simp only [inP, Bool.and_eq_true, decide_eq_true_eq] at h2
    obtain ⟨o1, o2, o3, o4, o5⟩ := hR.ok x h1
    have := (asc_idx h h2.1 h2.2).2 (by omega)
    have := List.idxOf_lt_length_iff.2 h2.2
    exact ⟨by simp only [renE]; omega, by simp only [renE]; omega, by simp only [renE]; omega, o4, o5⟩
  sorted := by
    rw [renL, List.pairwise_map]
    refine (hR.sorted.filter _).imp_of_mem fun {a b} ha hb hlt => ?_
    obtain ⟨a1, a2⟩ := List.mem_filter.1 ha
    obtain ⟨b1, b2⟩ := List.mem_filter.1 hb
    simp only [inP, Bool.and_eq_true, decide_eq_true_eq] at a2 b2
    obtain ⟨o1, o2, o3, _⟩ := hR.ok a a1
    obtain ⟨q1, q2, q3, _⟩ := hR.ok b b1
    simp only [ltE, renE] at hlt ⊢
    rcases hlt with hlt | ⟨he, hlt⟩
    · left
      have := (asc_idx h a2.1 b2.1).2 (by omega)
      omega
    · right
      refine ⟨by rw [he], ?_⟩
      have := (asc_idx h a2.2 b2.2).2 (by omega)
      omega
theorem renL_near {n : Int} {es : List E} (hR : RightG n es) {p : List Nat} (h : Asc p) (hp : p.length ≤ 1048576) {i j u v : Nat} (hi : p[i]? = some u) (hj : p[j]? = some v) : i ∈ nearS (tn (renL p es)) j ↔ u ∈ nearS (tn es) v := by
  have hu := List.mem_of_getElem? hi
  have hv := List.mem_of_getElem? hj
  have hn := h.nodup
  have ei : p.idxOf u = i := by
    obtain ⟨h1, h2⟩ := List.getElem?_eq_some_iff.1 hi
    rw [← h2]; exact hn.idxOf_getElem i h1
  have ej : p.idxOf v = j := by
    obtain ⟨h1, h2⟩ := List.getElem?_eq_some_iff.1 hj
    rw [← h2]; exact hn.idxOf_getElem j h1
  rw [mem_nearS, mem_nearS, mem_nb (renL_right hR h hp).tn_ne, mem_nb hR.tn_ne]
  have key : ∀ a b x y : Nat, p.idxOf x = a → p.idxOf y = b → x ∈ p → y ∈ p → ((a, b) ∈ tn (renL p es) ↔ (x, y) ∈ tn es) := fun a b x y ha hb hx hy => by
    rw [mem_tn, mem_tn]
    constructor
    · rintro ⟨e, he, h1, h2⟩
      obtain ⟨f, hf, rfl⟩ := List.mem_map.1 he
      obtain ⟨g1, g2⟩ := List.mem_filter.1 hf
      simp only [inP, Bool.and_eq_true, decide_eq_true_eq] at g2
      simp only [renE, Int.toNat_natCast] at h1 h2
      exact ⟨f, g1, idx_inj g2.1 hx (by omega), idx_inj g2.2 hy (by omega)⟩
    · rintro ⟨e, he, rfl, rfl⟩
      exact ⟨renE p e, List.mem_map.2 ⟨e, List.mem_filter.2 ⟨he, by simp [inP, hx, hy]⟩, rfl⟩, by simp only [renE, Int.toNat_natCast]; exact ha, by simp only [renE, Int.toNat_natCast]; exact hb⟩
  rw [key j i v u ej ei hv hu, key i j u v ei ej hu hv]
theorem renL_max {n : Int} {es : List E} (hR : RightG n es) {p l : List Nat} (h : Asc p) (hp : p.length ≤ 1048576) (hpn : ∀ u ∈ p, u < n.toNat) (hM : MaxIn (nearS (tn (renL p es))) p.length (fun _ => true) l) :
    MaxIn (nearS (tn es)) n.toNat (fun u => decide (u ∈ p)) (l.map fun i => p.getD i 0) := by
  have hget : ∀ i ∈ l, p[i]? = some (p.getD i 0) := fun i hi => by
    have := (hM.mem i hi).1
    rw [List.getD_eq_getElem?_getD, List.getElem?_eq_getElem this]; rfl
  have hn := h.nodup
  refine ⟨⟨?_, ?_, fun _ _ _ _ => rfl⟩, ?_, fun Y hY hm => ?_⟩
  · rw [List.Nodup, List.pairwise_map]
    refine hM.ind.nd.imp_of_mem fun {a b} ha hb hne e => hne ?_
    have e1 := hget a ha
    have e2 := hget b hb
    rw [e] at e1
    exact (List.getElem?_inj (List.getElem?_eq_some_iff.1 e1).1 hn).1 (e1.trans e2.symm)
  · intro u hu v hv
    obtain ⟨i, hi, rfl⟩ := List.mem_map.1 hu
    obtain ⟨j, hj, rfl⟩ := List.mem_map.1 hv
    rw [← renL_near hR h hp (hget i hi) (hget j hj)]
    exact hM.ind.no i hi j hj
  · intro u hu
    obtain ⟨i, hi, rfl⟩ := List.mem_map.1 hu
    have := List.mem_of_getElem? (hget i hi)
    exact ⟨hpn _ this, by simpa using this⟩
  · rw [List.length_map]
    have hYp : ∀ u ∈ Y, u ∈ p := fun u hu => by simpa using (hm u hu).2
    have hidx : ∀ u ∈ Y, p[p.idxOf u]? = some u := fun u hu => by
      have := List.idxOf_lt_length_iff.2 (hYp u hu)
      rw [List.getElem?_eq_getElem this, List.getElem_idxOf]
    have := hM.top (Y.map p.idxOf) ⟨?_, ?_, fun _ _ _ _ => rfl⟩ ?_
    · rwa [List.length_map] at this
    · rw [List.Nodup, List.pairwise_map]
      exact hY.nd.imp_of_mem fun {a b} ha hb hne e => hne (idx_inj (hYp a ha) (hYp b hb) e)
    · intro u hu v hv
      obtain ⟨x, hx, rfl⟩ := List.mem_map.1 hu
      obtain ⟨y, hy, rfl⟩ := List.mem_map.1 hv
      rw [renL_near hR h hp (hidx x hx) (hidx y hy)]
      exact hY.no x hx y hy
    · intro u hu
      obtain ⟨x, hx, rfl⟩ := List.mem_map.1 hu
      exact ⟨List.idxOf_lt_length_iff.2 (hYp x hx), rfl⟩
theorem MaxIn.nil (nb : Nat → List Nat) (N : Nat) : MaxIn nb N (fun u => decide (u ∈ ([] : List (List Nat)).flatten)) [] :=
  ⟨⟨.nil, by simp, by simp⟩, by simp, fun Y _ hm => by
    cases Y with
    | nil => simp
    | cons a Y => have := (hm a (.head _)).2; simp at this⟩
section
variable {n : Int} {es : List E} {kept : List Bool} {o' lab' : Nat → Nat}
theorem sel_asc {N : Nat} {lab : Nat → Nat} {c : List Nat} (h : c ∈ selL kept (compsS N lab)) : Asc c := by
  obtain ⟨r, hr, hl, rfl⟩ := comp_mem (List.mem_filter.1 h).1
  exact List.pairwise_lt_range.filter _
/-- one piece more -/
theorem shift_more (hR : RightG n es) (h : Lev n.toNat (nb (tn (es.filter (keepE kept)))) o' lab') {k : Nat} {p out l : List Nat} (hk : (selL kept (compsS n.toNat lab'))[k]? = some p)
    (hO : MaxIn (nearS (tn es)) n.toNat (fun u => decide (u ∈ ((selL kept (compsS n.toNat lab')).take k).flatten)) out) (hM : MaxIn (nearS (tn (renL p es))) p.length (fun _ => true) l) :
    MaxIn (nearS (tn es)) n.toNat (fun u => decide (u ∈ ((selL kept (compsS n.toNat lab')).take (k + 1)).flatten)) (out ++ l.map fun i => p.getD i 0) := by
  have hpm := List.mem_of_getElem? hk
  obtain ⟨r, t, hr, hpe, hkr, hlr, hm⟩ := sel_mem h.le hpm
  have hpn : ∀ u ∈ p, u < n.toNat := fun u hu => ((hm u).1 hu).1
  have hpl : p.length ≤ 1048576 := by
    have := nodup_length (sel_nodup hpm) hpn
    have := hR.hi; omega
  have h2 := renL_max hR (sel_asc hpm) hpl hpn hM
  have hidx : ∀ (u : Nat), u ∈ ((selL kept (compsS n.toNat lab')).take k).flatten → ∃ (j : Nat) (c : List Nat), j < k ∧ (selL kept (compsS n.toNat lab'))[j]? = some c ∧ u ∈ c := fun u hu => by
    obtain ⟨c, hc, huc⟩ := List.mem_flatten.1 hu
    obtain ⟨j, hj⟩ := List.getElem?_of_mem hc
    rw [List.getElem?_take] at hj
    split at hj
    · rename_i hlt; exact ⟨j, c, hlt, hj, huc⟩
    · simp at hj
  refine (hO.join h2 (fun u v _ _ _ _ => Iff.rfl) (fun u v hu hv h1 h2 => ?_) fun u hu h1 => ?_).congr fun u hu => ?_
  · obtain ⟨j, c, hj, hc, huc⟩ := hidx u (of_decide_eq_true h1)
    have hvp : v ∈ p := of_decide_eq_true h2
    have hne : ∀ x ∈ c, x ∉ p := fun x hx hxp => by have := sel_apart hc hk hx hxp; omega
    refine ⟨fun hh => ?_, fun hh => ?_⟩
    · exact hne u huc (sel_edge hR h hpm (List.mem_of_getElem? hc) hvp huc (mem_nearS.1 hh))
    · exact hne v (sel_edge hR h (List.mem_of_getElem? hc) hpm huc hvp (mem_nearS.1 hh)) hvp
  · obtain ⟨j, c, hj, hc, huc⟩ := hidx u (of_decide_eq_true h1)
    exact decide_eq_false fun hh => by have := sel_apart hc hk huc hh; omega
  · rw [List.take_add_one, hk, List.flatten_append]
    simp
theorem shift_all (hR : RightG n es) (h : Lev n.toNat (nb (tn (es.filter (keepE kept)))) o' lab') {u : Nat} (hu : u < n.toNat) : decide (u ∈ (selL kept (compsS n.toNat lab')).flatten) = kept.getD u false := by
  cases hk : kept.getD u false
  · refine decide_eq_false fun hm => ?_
    obtain ⟨c, hc, huc⟩ := List.mem_flatten.1 hm
    obtain ⟨r, t, hr, hpe, hkr, hlr, hm⟩ := sel_mem h.le hc
    have := thin_kept hR h hu
    rw [((hm u).1 huc).2, hkr, hk] at this
    simp at this
  · refine decide_eq_true (List.mem_flatten.2 ⟨(List.range n.toNat).filter fun v => lab' v == lab' u, List.mem_filter.2 ⟨?_, ?_⟩, List.mem_filter.2 ⟨List.mem_range.2 hu, by simp⟩⟩)
    · have h1 := h.le u hu
      have h2 := h.idem u hu
      simp only [compsS, compsI, List.mem_map, List.mem_filter, List.mem_range]
      exact ⟨lab' u, ⟨by omega, by simpa using h2⟩, rfl⟩
    · have h1 := h.le u hu
      obtain ⟨t, ht⟩ := comp_head (N := n.toNat) (lab := lab') (r := lab' u) (by omega) (h.idem u hu) h.le
      rw [ht, List.headD_cons, ← thin_kept hR h hu, hk]
end
end Fil
end
section
set_option linter.unusedVariables false
namespace Fil
def endsNe (a b : E) : Prop := ¬ (a.1 = b.1 ∧ a.2.1 = b.2.1)
theorem ltE_ne {a b : E} (h : ltE a b) : endsNe a b := by unfold ltE at h; unfold endsNe; omega
theorem endsNe_symm {a b : E} (h : endsNe a b) : endsNe b a := fun h2 => h ⟨h2.1.symm, h2.2.symm⟩
theorem belowB_iff {a b : E} : belowB a b = true ↔ ltE a b := by simp [belowB, ltE]
theorem posE_spec (g : List E) (e : E) : ∀ k, k ≤ g.length → (∀ j x, posE g e k ≤ j → j < k → g[j]? = some x → ltE e x) ∧ (∀ x, 0 < posE g e k → g[posE g e k - 1]? = some x → ¬ ltE e x)
  | 0, _ => ⟨fun j x _ h => by omega, fun x h => by simp [posE] at h⟩
  | k + 1, hk => by
    obtain ⟨h1, h2⟩ := posE_spec g e k (by omega)
    have hg : g[k]? = some (g.getD k (0, 0, 0)) := by rw [List.getD_eq_getElem?_getD, List.getElem?_eq_getElem (by omega)]; rfl
    rw [posE]
    split
    · rename_i hb
      refine ⟨fun j x hj hjk hx => ?_, h2⟩
      by_cases hjk2 : j = k
      · subst hjk2
        rw [hg] at hx
        rw [← Option.some.inj hx]
        exact belowB_iff.1 hb
      · exact h1 j x hj (by omega) hx
    · rename_i hb
      refine ⟨fun j x hj hjk => by omega, fun x _ hx => ?_⟩
      rw [Nat.add_sub_cancel, hg] at hx
      rw [← Option.some.inj hx]
      exact fun h => hb (belowB_iff.2 h)
theorem insE_perm (g : List E) (e : E) : (insE g e).Perm (g ++ [e]) := by
  rw [insE, List.append_assoc]
  have h : ([e] ++ g.drop (posE g e g.length)).Perm (g.drop (posE g e g.length) ++ [e]) := List.perm_append_comm
  refine (h.append_left _).trans ?_
  rw [← List.append_assoc, List.take_append_drop]
theorem ins_sorted {g : List E} {e : E} (hg : g.Pairwise ltE) : (twE g e = false → (insE g e).Pairwise ltE ∧ ∀ f ∈ g, endsNe f e) ∧ (twE g e = true → ∃ f ∈ g, ¬ endsNe f e) := by
  have hle := posE_le g e g.length
  obtain ⟨h1, h2⟩ := posE_spec g e g.length (Nat.le_refl _)
  generalize hp : posE g e g.length = p at *
  have hlast : 0 < p → g[p - 1]? = some (g.getD (p - 1) (0, 0, 0)) := fun h => by rw [List.getD_eq_getElem?_getD, List.getElem?_eq_getElem (by omega)]; rfl
  constructor
  · intro ht
    have hlow : ∀ f ∈ g.take p, ltE f e := by
      by_cases h0 : p = 0
      · subst h0; simp
      · have hb : ltE (g.getD (p - 1) (0, 0, 0)) e := by
          rw [twE, hp] at ht
          rw [← belowB_iff]
          cases hbb : belowB (g.getD (p - 1) (0, 0, 0)) e
          · rw [hbb] at ht; simp at ht; omega
          · rfl
        intro f hf
        obtain ⟨j, hj⟩ := List.getElem?_of_mem hf
        rw [List.getElem?_take] at hj
        split at hj
        · rename_i hjp
          by_cases hjl : j = p - 1
          · subst hjl
            rw [hlast (by omega)] at hj
            rw [← Option.some.inj hj]; exact hb
          · obtain ⟨q1, q2⟩ := List.getElem?_eq_some_iff.1 hj
            obtain ⟨q3, q4⟩ := List.getElem?_eq_some_iff.1 (hlast (by omega))
            have := List.pairwise_iff_getElem.1 hg j (p - 1) q1 q3 (by omega)
            rw [q2, q4] at this
            exact ltE_trans this hb
        · simp at hj
    have hhigh : ∀ f ∈ g.drop p, ltE e f := by
      intro f hf
      obtain ⟨j, hj⟩ := List.getElem?_of_mem hf
      rw [List.getElem?_drop] at hj
      exact h1 (p + j) f (by omega) (List.getElem?_eq_some_iff.1 hj).1 hj
    refine ⟨?_, fun f hf => ?_⟩
    · rw [insE, hp, List.append_assoc, List.pairwise_append]
      refine ⟨hg.sublist (List.take_sublist _ _), ?_, fun a ha b hb => ?_⟩
      · rw [List.singleton_append, List.pairwise_cons]
        exact ⟨hhigh, hg.sublist (List.drop_sublist _ _)⟩
      · rcases List.mem_append.1 hb with hb | hb
        · obtain rfl : b = e := by simpa using hb
          exact hlow a ha
        · exact ltE_trans (hlow a ha) (hhigh b hb)
    · rw [← List.take_append_drop p g] at hf
      rcases List.mem_append.1 hf with hf | hf
      · exact ltE_ne (hlow f hf)
      · exact endsNe_symm (ltE_ne (hhigh f hf))
  · intro ht
    rw [twE, hp, Bool.and_eq_true, decide_eq_true_eq, Bool.not_eq_true'] at ht
    obtain ⟨t1, t2⟩ := ht
    refine ⟨_, List.mem_of_getElem? (hlast t1), fun hne => ?_⟩
    have a1 := h2 _ t1 (hlast t1)
    have a2 : ¬ ltE (g.getD (p - 1) (0, 0, 0)) e := fun h => by rw [belowB_iff.2 h] at t2; cases t2
    unfold ltE at a1 a2
    unfold endsNe at hne
    omega
theorem makeF_tw {n : Int} : ∀ (l g : List E), (∀ e ∈ l, aloneK n e.1 e.2.1 e.2.2 = 0) → makeF n l g true = (7, [])
  | [], g, _ => rfl
  | e :: l, g, h => by
    rw [makeF, if_pos (h e (.head _)), Bool.true_or]
    exact makeF_tw l _ fun f hf => h f (.tail _ hf)
theorem makeF_all {n : Int} : ∀ (l g : List E), (∀ e ∈ l, aloneK n e.1 e.2.1 e.2.2 = 0) → g.Pairwise ltE →
    ((g ++ l.map swapE).Pairwise endsNe → ∃ m, makeF n l g false = (0, m) ∧ m.Pairwise ltE ∧ m.Perm (g ++ l.map swapE)) ∧ (¬ (g ++ l.map swapE).Pairwise endsNe → makeF n l g false = (7, []))
  | [], g, _, hg => ⟨fun _ => ⟨g, rfl, hg, by simp⟩, fun h => absurd (by simpa using hg.imp ltE_ne) h⟩
  | e :: l, g, h, hg => by
    obtain ⟨s1, s2⟩ := ins_sorted (e := swapE e) hg
    have hal := h e (.head _)
    have htl : ∀ f ∈ l, aloneK n f.1 f.2.1 f.2.2 = 0 := fun f hf => h f (.tail _ hf)
    have hperm : (insE g (swapE e) ++ l.map swapE).Perm (g ++ (e :: l).map swapE) := by
      rw [List.map_cons, show g ++ swapE e :: l.map swapE = (g ++ [swapE e]) ++ l.map swapE by simp]
      exact (insE_perm g (swapE e)).append_right _
    rw [makeF, if_pos hal, Bool.false_or]
    cases ht : twE g (swapE e)
    · obtain ⟨i1, i2⟩ := makeF_all l (insE g (swapE e)) htl (s1 ht).1
      refine ⟨fun hp => ?_, fun hp => i2 fun h2 => hp ?_⟩
      · obtain ⟨m, m1, m2, m3⟩ := i1 ((List.Perm.pairwise_iff (fun h => endsNe_symm h) hperm).2 hp)
        exact ⟨m, m1, m2, m3.trans hperm⟩
      · exact (List.Perm.pairwise_iff (fun h => endsNe_symm h) hperm).1 h2
    · refine ⟨fun hp => ?_, fun _ => makeF_tw l _ htl⟩
      exfalso
      obtain ⟨f, hf, hne⟩ := s2 ht
      rw [List.map_cons] at hp
      exact hne ((List.pairwise_append.1 hp).2.2 f hf (swapE e) (.head _))
theorem makeF_first {n : Int} : ∀ (l g : List E) (tw : Bool) (i : Nat) (e : E), l[i]? = some e → aloneK n e.1 e.2.1 e.2.2 ≠ 0 → (∀ f ∈ l.take i, aloneK n f.1 f.2.1 f.2.2 = 0) → makeF n l g tw = (aloneK n e.1 e.2.1 e.2.2, [])
  | [], g, tw, i, e, h, _, _ => by simp at h
  | a :: l, g, tw, 0, e, h, h2, _ => by
    obtain rfl : a = e := by simpa using h
    rw [makeF, if_neg h2]
  | a :: l, g, tw, i + 1, e, h, h2, h3 => by
    rw [makeF, if_pos (h3 a (by simp))]
    exact makeF_first l _ _ i e (by simpa using h) h2 fun f hf => h3 f (by simp [hf])
theorem ltE_asymm {a b : E} (h : ltE a b) : ¬ ltE b a := by unfold ltE at *; omega
theorem sorted_one : ∀ {a b : List E}, a.Pairwise ltE → b.Pairwise ltE → a.Perm b → a = b
  | [], b, _, _, h => (List.Perm.nil_eq h)
  | x :: a, [], _, _, h => by have := h.length_eq; simp at this
  | x :: a, y :: b, ha, hb, h => by
    rw [List.pairwise_cons] at ha hb
    have hxy : x = y := by
      rcases List.mem_cons.1 (h.mem_iff.1 (.head _)) with h1 | h1
      · exact h1
      · rcases List.mem_cons.1 (h.mem_iff.2 (.head b)) with h2 | h2
        · exact h2.symm
        · exact absurd (ha.1 y h2) (ltE_asymm (hb.1 x h1))
    subst hxy
    rw [sorted_one ha.2 hb.2 (h.cons_inv)]
theorem first_bad {α : Type} {P : α → Prop} : ∀ {l : List α}, (∀ x ∈ l, P x) ∨ ∃ (i : Nat) (e : α), l[i]? = some e ∧ ¬ P e ∧ ∀ f ∈ l.take i, P f
  | [] => .inl (by simp)
  | a :: l => by
    by_cases ha : P a
    · rcases first_bad (P := P) (l := l) with h | ⟨i, e, h1, h2, h3⟩
      · exact .inl fun x hx => (List.mem_cons.1 hx).elim (fun h2 => h2 ▸ ha) (h x)
      · exact .inr ⟨i + 1, e, by simpa using h1, h2, fun f hf => by
          rw [List.take_succ_cons] at hf
          exact (List.mem_cons.1 hf).elim (fun h2 => h2 ▸ ha) (h3 f)⟩
    · exact .inr ⟨0, a, rfl, ha, by simp⟩
theorem adj_strict {l : List E} (h : l.Pairwise fun a b => ¬ orderK b a < 0) (hq : ∀ (i : Nat) (a b : E), l[i]? = some a → l[i + 1]? = some b → orderK a b ≠ 0) : l.Pairwise ltE := by
  have hadj : ∀ (i : Nat) (a b : E), l[i]? = some a → l[i + 1]? = some b → ltE a b := fun i a b ha hb => by
    obtain ⟨i1, rfl⟩ := List.getElem?_eq_some_iff.1 ha
    obtain ⟨i2, rfl⟩ := List.getElem?_eq_some_iff.1 hb
    have h1 := List.pairwise_iff_getElem.1 h i (i + 1) i1 i2 (by omega)
    have h2 := hq i _ _ ha hb
    revert h1 h2
    generalize l[i] = a
    generalize l[i + 1] = b
    intro h1 h2
    unfold orderK cmpK at h1 h2
    unfold ltE
    split at h1 <;> split at h2 <;> (repeat' split at h1) <;> (repeat' split at h2) <;> omega
  rw [List.pairwise_iff_getElem]
  intro i j hi hj hij
  induction j with
  | zero => omega
  | succ j ih =>
    have h1 := hadj j l[j] l[j + 1] (List.getElem?_eq_getElem (by omega)) (List.getElem?_eq_getElem hj)
    by_cases h2 : i = j
    · subst h2; exact h1
    · exact ltE_trans (ih (by omega) (by omega)) h1
theorem order_ends {a b : E} (h : orderK a b = 0) : ¬ endsNe a b := by
  unfold orderK cmpK at h
  unfold endsNe
  split at h <;> (repeat' split at h) <;> omega
end Fil
namespace Go.Proofs.YtpajjnkmaebhcabGreat
open Fil
theorem MakeP.eq {n : Int} {l : List E} {k : Int} {m : List E} (h : MakeP n l k m) : makeR n l = (k, m) := by
  rw [makeR]
  by_cases h0 : sizesK n l.length = 0
  · rw [if_pos h0]
    rcases first_bad (P := fun e : E => aloneK n e.1 e.2.1 e.2.2 = 0) (l := l) with hal | ⟨i, e, h1, h2, h3⟩
    · obtain ⟨f1, f2⟩ := makeF_all l [] hal .nil
      rw [List.nil_append] at f1 f2
      obtain ⟨l', p1, p2, p3⟩ := h.good h0 hal
      by_cases hp : (l.map swapE).Pairwise endsNe
      · obtain ⟨m', m1, m2, m3⟩ := f1 hp
        have hp' : l'.Pairwise endsNe := (List.Perm.pairwise_iff (fun h => endsNe_symm h) p1).2 hp
        rcases p3 with ⟨_, _, i, a, b, ha, hb, hab⟩ | ⟨rfl, rfl, hq⟩
        · exfalso
          obtain ⟨i1, rfl⟩ := List.getElem?_eq_some_iff.1 ha
          obtain ⟨i2, rfl⟩ := List.getElem?_eq_some_iff.1 hb
          exact order_ends hab (List.pairwise_iff_getElem.1 hp' i (i + 1) i1 i2 (by omega))
        · rw [m1, sorted_one m2 (adj_strict p2 hq) (m3.trans p1.symm)]
      · rcases p3 with ⟨rfl, rfl, _⟩ | ⟨rfl, rfl, hq⟩
        · exact f2 hp
        · exfalso
          exact hp ((List.Perm.pairwise_iff (fun h => endsNe_symm h) p1).1 ((adj_strict p2 hq).imp ltE_ne))
    · obtain ⟨rfl, rfl⟩ := h.alone h0 i e h1 h2 h3
      exact makeF_first l [] false i e h1 h2 h3
  · rw [if_neg h0]
    obtain ⟨rfl, rfl⟩ := h.size h0
    rfl
end Go.Proofs.YtpajjnkmaebhcabGreat
end
