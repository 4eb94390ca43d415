/- Are lists of lists the same? -/
import Derived.Test.YtkekpgkacjpjnaaRef04
import Derived.Test.YtkekpgkacjpjnaaNear
namespace Go.Sl
open Go Go.RowKit
/-- rows that are read, by rows of numbers -/
structure ROs (w : World) (S : FS) (v : Value) (hs : List Value) (ls : List (List Nat)) : Prop where
  shp : Shp v ls.length
  len : hs.length = ls.length
  ro : RO w S v hs
  kid : ∀ (i : Nat) h l, hs[i]? = some h → ls[i]? = some l → Shp h l.length ∧ RO w S h (nV l)
theorem ros_own {w0 w : World} {S0 : FS} {L : List HP} {v : Value} {e : TypeId} {m : Nat} {hs : List Value} {ls : List (List Nat)} (h : St w0 S0 L w) (hL : rowHP v e 1 m hs ∈ L) (hm : m = ls.length) (hK : starHP (kids rowN hs ls) ∈ L) : ROs w No v hs ls := by
  obtain ⟨S, hsat⟩ := h.mem hL
  have hl : hs.length = m := by have := hsat.1; omega
  refine ⟨hm ▸ rowHP_shp hsat, by omega, RO.of_rd (rowHP_rd hsat), fun i x l h1 h2 => ?_⟩
  have hk : rowHP x 3 1 l.length (nV l) ∈ kids rowN hs ls := kids_mem (f := rowN) h1 h2
  obtain ⟨S, hsat⟩ := h.kid hK hk
  exact ⟨rowHP_shp hsat, RO.of_rd (rowHP_rd hsat)⟩
theorem ros_old {w0 w : World} {S0 : FS} {L : List HP} {v : Value} {hs : List Value} {ls : List (List Nat)} (h : St w0 S0 L w) (hr : ROs w0 S0 v hs ls) : ROs w No v hs ls :=
  ⟨hr.shp, hr.len, ro_old h hr.ro, fun i x l h1 h2 => ⟨(hr.kid i x l h1 h2).1, ro_old h (hr.kid i x l h1 h2).2⟩⟩
theorem nV_iV (l : List Nat) : nV l = iV (l.map fun z : Nat => (z : Int)) := by simp [nV, iV]
end Go.Sl
namespace Go.Proofs.Ytkekpgkacjpjnaa
open Go.RowKit Go.Sl Fil
set_option maxRecDepth 100000
set_option maxHeartbeats 8000000
set_option linter.unusedVariables false
set_option linter.unusedSimpArgs false
attribute [local irreducible] Code.wp wpList bodyPost wpQuiet Exit.then Exit.inBlock Post wpAnyH wpOp
theorem IntsN_ok (a b : Value) (x y : List Nat) (w : World) (ha : Shp a x.length) (hb : Shp b y.length) (hra : RO w No a (nV x)) (hrb : RO w No b (nV y)) :
    Calls Try.prog 17 #[a, b] w (Post w No (Just (.bool (decide (x = y))))) := by
  have h := Ints_ok a b (x.map fun z : Nat => (z : Int)) (y.map fun z : Nat => (z : Int)) w (by simpa using ha) (by simpa using hb) (by rw [← nV_iV]; exact hra) (by rw [← nV_iV]; exact hrb)
  have e : (x.map (fun z : Nat => (z : Int)) = y.map fun z : Nat => (z : Int)) ↔ x = y := ⟨fun h => (List.map_inj_right (fun a b h => by omega)).1 h, fun h => by rw [h]⟩
  rwa [show decide (x.map (fun z : Nat => (z : Int)) = y.map fun z : Nat => (z : Int)) = decide (x = y) from decide_eq_decide.2 e] at h

theorem IntsN_t (a b : Value) (x y : List Nat) (w : World) (hxy : x = y) (ha : Shp a x.length) (hb : Shp b y.length) (hra : RO w No a (nV x)) (hrb : RO w No b (nV y)) :
    Calls Try.prog 17 #[a, b] w (Post w No (Just (.bool true))) := by
  have h := IntsN_ok a b x y w ha hb hra hrb
  rwa [decide_eq_true hxy] at h
theorem IntsN_f (a b : Value) (x y : List Nat) (w : World) (hxy : ¬ x = y) (ha : Shp a x.length) (hb : Shp b y.length) (hra : RO w No a (nV x)) (hrb : RO w No b (nV y)) :
    Calls Try.prog 17 #[a, b] w (Post w No (Just (.bool false))) := by
  have h := IntsN_ok a b x y w ha hb hra hrb
  rwa [decide_eq_false hxy] at h

theorem Lists_ok (a b : Value) (hx hy : List Value) (x y : List (List Nat)) (w : World) (ha : ROs w No a hx x) (hb : ROs w No b hy y) :
    Calls Try.prog 23 #[a, b] w (Post w No (Just (.bool (decide (x = y))))) := by
  have hsa := ha.shp
  have hsb := hb.shp
  have hra := ha.ro
  have hrb := hb.ro
  have hla := ha.len
  have hlb := hb.len
  have hm : x.length ≤ maxLen := hsa.1
  simp only [maxLen] at hm
  refine enter0 (vs := [_, _]) Try.func23 rfl Try.ntmps23 rfl ?_
  repeat' first
    | refine k_then ?_
    | refine c_seq ?_
    | refine c_region ?_
    | refine s_nil ?_
    | refine s_move (by exact rfl) (by exact rfl) ?_
    | refine s_assign (by exact rfl) (by exact rfl) ?_
    | refine s_neq (by exact rfl) (by exact rfl) (by exact rfl) ?_
    | refine s_len (by exact rfl) (by exact rfl) (by assumption) ?_
    | refine c_block ?_
    | refine c_skip ?_
    | refine c_ret ?_
    | refine k_then_ret ?_
    | (refine c_cond_p (by exact rfl) (fun h => ?_) (fun h => ?_) <;> try (exfalso; omega))
  · refine ret1 [] rfl rfl rfl ⟨congrArg Value.bool ?_, rfl⟩
    exact (decide_eq_false fun e => h (by rw [e])).symm
  · refine c_loop (fun k : Nat => k ≤ x.length ∧ x.take k = y.take k) (fun k => [(0, a), (1, b), (5, .int .i64 (k : Int))]) (fun _ => []) (fun k => x.length - k) 0 [] ⟨by omega, rfl⟩ rfl ⟨rfl, rfl, rfl, trivial⟩ ?_
    rintro k ⟨hk, hq⟩
    by_cases hlt : k < x.length
    · obtain ⟨c, hc⟩ : ∃ c, x[k]? = some c := ⟨_, List.getElem?_eq_getElem hlt⟩
      obtain ⟨d, hd⟩ : ∃ d, y[k]? = some d := ⟨_, List.getElem?_eq_getElem (by omega)⟩
      obtain ⟨vc, hvc⟩ : ∃ c, hx[k]? = some c := ⟨_, List.getElem?_eq_getElem (by omega)⟩
      obtain ⟨vd, hvd⟩ : ∃ d, hy[k]? = some d := ⟨_, List.getElem?_eq_getElem (by omega)⟩
      obtain ⟨kc1, kc2⟩ := ha.kid k vc c hvc hc
      obtain ⟨kd1, kd2⟩ := hb.kid k vd d hvd hd
      have h1 : hx[k * 1]? = some vc := by simpa using hvc
      have h2 : hy[k * 1]? = some vd := by simpa using hvd
      by_cases hcd : c = d
      · repeat' first
          | refine k_then ?_
          | refine c_seq ?_
          | refine c_region ?_
          | refine s_nil ?_
          | refine s_move (by exact rfl) (by exact rfl) ?_
          | refine s_lss (by exact rfl) (by exact rfl) (by exact rfl) ?_
          | refine s_len (by exact rfl) (by exact rfl) (by assumption) ?_
          | refine c_block ?_
          | refine c_skip ?_
          | (refine c_cond_p (by exact rfl) (fun h => ?_) (fun h => ?_) <;> try (exfalso; omega))
        refine p_begin0 [(0, true), (1, true), (2, true), (3, true), (4, true), (5, true), (6, true), (7, true), (8, false), (9, true)] (by kernel_rfl) ?_
        repeat' first
          | (refine p_at (by exact rfl) ?_
             first
              | refine t_move (by exact rfl) (by exact rfl) (by exact fun _ h => h) ?_
              | refine t_idx (by exact rfl) (by exact rfl) (by exact rfl) (by assumption) (by first | assumption | omega) (by exact fun _ h => h) ?_
              | refine t_ld_ro (by exact rfl) (by exact rfl) (by assumption) (by assumption) (by exact fun _ h => h) ?_)
        refine p_call (gd := none) (by exact rfl) rfl (by exact rfl) (fun w h => IntsN_t vc vd c d w hcd kc1 kd1 (ro_old h kc2) (ro_old h kd2)) (by exact fun _ h => h) ?_
        repeat' first
          | refine p_nil ?_
          | (refine p_at (by exact rfl) ?_
             first
              | refine t_not (by exact rfl) (by exact rfl) (by exact fun _ h => h) ?_)
        repeat' first
          | refine k_then ?_
          | refine c_region ?_
          | refine s_nil ?_
          | refine s_move (by exact rfl) (by exact rfl) ?_
          | refine s_assign (by exact rfl) (by exact rfl) ?_
          | refine s_add (by exact rfl) (by exact rfl) (by exact rfl) (by omega) ?_
          | refine c_skip ?_
          | refine k_blk ?_
          | refine c_cond_f (by exact rfl) ?_
        refine c_round (k + 1) [] (by exact rfl) (by exact ⟨rfl, rfl, rfl, trivial⟩) ⟨by omega, ?_⟩ (by omega)
        rw [List.take_add_one, List.take_add_one, hq, hc, hd, hcd]
      · repeat' first
          | refine k_then ?_
          | refine c_seq ?_
          | refine c_region ?_
          | refine s_nil ?_
          | refine s_move (by exact rfl) (by exact rfl) ?_
          | refine s_lss (by exact rfl) (by exact rfl) (by exact rfl) ?_
          | refine s_len (by exact rfl) (by exact rfl) (by assumption) ?_
          | refine c_block ?_
          | refine c_skip ?_
          | (refine c_cond_p (by exact rfl) (fun h => ?_) (fun h => ?_) <;> try (exfalso; omega))
        refine p_begin0 [(0, true), (1, true), (2, true), (3, true), (4, true), (5, true), (6, true), (7, true), (8, false), (9, true)] (by kernel_rfl) ?_
        repeat' first
          | (refine p_at (by exact rfl) ?_
             first
              | refine t_move (by exact rfl) (by exact rfl) (by exact fun _ h => h) ?_
              | refine t_idx (by exact rfl) (by exact rfl) (by exact rfl) (by assumption) (by first | assumption | omega) (by exact fun _ h => h) ?_
              | refine t_ld_ro (by exact rfl) (by exact rfl) (by assumption) (by assumption) (by exact fun _ h => h) ?_)
        refine p_call (gd := none) (by exact rfl) rfl (by exact rfl) (fun w h => IntsN_f vc vd c d w hcd kc1 kd1 (ro_old h kc2) (ro_old h kd2)) (by exact fun _ h => h) ?_
        repeat' first
          | refine p_nil ?_
          | (refine p_at (by exact rfl) ?_
             first
              | refine t_not (by exact rfl) (by exact rfl) (by exact fun _ h => h) ?_)
        repeat' first
          | refine k_then ?_
          | refine c_seq ?_
          | refine c_region ?_
          | refine s_nil ?_
          | refine s_assign (by exact rfl) (by exact rfl) ?_
          | refine c_ret ?_
          | refine k_then_ret ?_
          | refine k_blk_ret ?_
          | refine c_cond_t (by exact rfl) ?_
        refine ret1 [] rfl rfl rfl ⟨congrArg Value.bool ?_, rfl⟩
        refine (decide_eq_false fun e => hcd ?_).symm
        subst e
        rw [hc] at hd
        simpa using hd
    · repeat' first
        | refine k_then ?_
        | refine c_seq ?_
        | refine c_region ?_
        | refine s_nil ?_
        | refine s_move (by exact rfl) (by exact rfl) ?_
        | refine s_assign (by exact rfl) (by exact rfl) ?_
        | refine s_lss (by exact rfl) (by exact rfl) (by exact rfl) ?_
        | refine s_len (by exact rfl) (by exact rfl) (by assumption) ?_
        | refine c_exit ?_
        | refine c_ret ?_
        | refine k_then_exit ?_
        | refine k_blk_eq ?_
        | (refine c_cond_p (by exact rfl) (fun h => ?_) (fun h => ?_) <;> try (exfalso; omega))
      refine ret1 [] rfl rfl rfl ⟨congrArg Value.bool ?_, rfl⟩
      refine (decide_eq_true ?_).symm
      rw [List.take_of_length_le (by omega), List.take_of_length_le (by omega)] at hq
      exact hq
end Go.Proofs.Ytkekpgkacjpjnaa
