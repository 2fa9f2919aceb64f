/-
  Contracts of functions of the program (printed by a program of this work; Lean checks each).
  Conditions: as each contract states.
-/
import Derived.Test.YtlkbfpklhncfbaaK74
import Derived.Test.YtlkbfpklhncfbaaK75
import Derived.Test.YtlkbfpklhncfbaaK76
namespace Go.Proofs.Ytlkbfpklhncfbaa
open Go.Ev Go.RowKit
set_option maxRecDepth 100000
set_option linter.unusedVariables false
set_option linter.unusedSimpArgs false

attribute [local irreducible] isCornF bigF detF ofGo isCoordF longL

theorem pure_ofX {P : Program} {f : Nat} {args : List Value} {V : Value} (ha : allL plain args = true) (hv : plain V = true) (h : CallOK P f args [] (fun v m_ => v = V ∧ m_ = [])) : Pure P f args V :=
  ⟨h.enters, ha, hv, fun w => by
    have := h.run ⟨w, []⟩ [] w (MemAt.start w) (fun u hu => (plain_ok (allL_spec ha u hu) _ []).1)
    rw [map_conc_plain ha] at this
    refine this.mono fun e w' ⟨v, mem', σ, he, _, hm, hk⟩ => ?_
    obtain ⟨rfl, rfl⟩ := hk
    exact ⟨by rw [he, (plain_ok hv 0 _).2], hm.toBelow⟩⟩

theorem p_impl_SumOfCorners_bad {a b c d e f g i m : Int}  (hk : (isCornF a b c d && isCornF e f g i) = false) : Pure Try.prog n_impl_SumOfCorners [q4 a b c d, q4 e f g i, ii m] (t2 (q4 0 0 0 0) (ii 1)) := pure_ofX rfl rfl (c_impl_SumOfCorners_bad hk)

theorem p_spec_SumOfCorners_bad {a b c d e f g i m : Int}  (hk : (isCornF a b c d && isCornF e f g i) = false) : Pure Try.prog n_spec_SumOfCorners [q4 a b c d, q4 e f g i, ii m] (t2 (q4 0 0 0 0) (ii 1)) := pure_ofX rfl rfl (c_spec_SumOfCorners_bad hk)

theorem c_law_SumOfCorners_bad {a b c d e f g i m : Int}  (hk : (isCornF a b c d && isCornF e f g i) = false) : Pure Try.prog n_laws_FnExactSumOfCorners [q4 a b c d, q4 e f g i, ii m] (bb true) := by
  refine pure_of good fn_laws_FnExactSumOfCorners rfl rfl ?_
  conv => whnf
  all_goals (repeat' first
    | (refine (p_impl_SumOfCorners_bad hk).quiet ?_; conv => whnf)
    | (refine (p_impl_SumOfCorners_bad hk).call ?_; conv => whnf)
    | (refine (p_spec_SumOfCorners_bad hk).quiet ?_; conv => whnf)
    | (refine (p_spec_SumOfCorners_bad hk).call ?_; conv => whnf)
    | (refine br_true ?_ ?_; (focus (simp; done)); conv => whnf)
    | (refine br_false ?_ ?_; (focus (simp; done)); conv => whnf)
    | (refine br_false (decide_eq_false (by omega)) ?_; conv => whnf)
    | (refine draw_call (by decide +kernel) ?_; conv => whnf)
    | (refine StoreK.mk rfl ?_; conv => whnf)
    | exact join_same
    | exact (by assumption : (_ : Bool) = (_ : Bool))
    | (refine br_true (by assumption) ?_; conv => whnf)
    | (refine br_false (by assumption) ?_; conv => whnf)
    | (refine br_not ?_; conv => whnf)
    | (refine br_code ?_; conv => whnf)
    | (with_reducible refine br_and ?_; conv => whnf)
    | (with_reducible refine br_or ?_; conv => whnf)
    | (refine br_eq2 ?_; conv => whnf)
    | (refine c_laws_toCorner.call ?_; conv => whnf)
    | (refine c_laws_toCorner.quiet ?_; conv => whnf)
    | (refine c_eqCorner_same.call ?_; conv => whnf)
    | (refine c_eqCorner_same.quiet ?_; conv => whnf)
    | (refine draw_auto (by decide +kernel) ?_; conv => whnf)
    | (refine draw_asg (by decide +kernel) ?_; conv => whnf)
    | (refine draw_st (by decide +kernel) ?_; conv => whnf)
    | (refine draw_call (by decide +kernel) ?_; conv => whnf)
    | (refine enter_same (loop_n 12 ?_); conv => whnf)
    | (refine next_same ?_; conv => whnf)
    | (refine mapK_row (by assumption) ?_; conv => whnf)
    | (refine mapK_plain (Plain.of rfl) ?_; conv => whnf)
    | (refine mapK_lit ?_; conv => whnf)
    | (refine br_split (fun _ => ?_) (fun _ => ?_) <;> conv => whnf)
    | exact (rfl : (_ : Value) = _)
    | (simp only [*]; exact (rfl : (_ : Value) = _))
    | (simp [*]; done))

theorem p_impl_SumOfCorners_rng {a b c d e f g i m : Int}  (h : isCornF a b c d = true) (k : isCornF e f g i = true) (h2 : bigF a b c d = false) (k2 : bigF e f g i = false) (hm : isCoordF m = false) : Pure Try.prog n_impl_SumOfCorners [q4 a b c d, q4 e f g i, ii m] (t2 (q4 0 0 0 0) (ii 2)) := pure_ofX rfl rfl (c_impl_SumOfCorners_rng h k h2 k2 hm)

theorem p_spec_SumOfCorners_rng {a b c d e f g i m : Int}  (h : isCornF a b c d = true) (k : isCornF e f g i = true) (h2 : bigF a b c d = false) (k2 : bigF e f g i = false) (hm : isCoordF m = false) : Pure Try.prog n_spec_SumOfCorners [q4 a b c d, q4 e f g i, ii m] (t2 (q4 0 0 0 0) (ii 2)) := pure_ofX rfl rfl (c_spec_SumOfCorners_rng h k h2 k2 hm)

theorem c_law_SumOfCorners_rng {a b c d e f g i m : Int}  (h : isCornF a b c d = true) (k : isCornF e f g i = true) (h2 : bigF a b c d = false) (k2 : bigF e f g i = false) (hm : isCoordF m = false) : Pure Try.prog n_laws_FnExactSumOfCorners [q4 a b c d, q4 e f g i, ii m] (bb true) := by
  refine pure_of good fn_laws_FnExactSumOfCorners rfl rfl ?_
  conv => whnf
  all_goals (repeat' first
    | (refine (p_impl_SumOfCorners_rng h k h2 k2 hm).quiet ?_; conv => whnf)
    | (refine (p_impl_SumOfCorners_rng h k h2 k2 hm).call ?_; conv => whnf)
    | (refine (p_spec_SumOfCorners_rng h k h2 k2 hm).quiet ?_; conv => whnf)
    | (refine (p_spec_SumOfCorners_rng h k h2 k2 hm).call ?_; conv => whnf)
    | (refine br_true ?_ ?_; (focus (simp; done)); conv => whnf)
    | (refine br_false ?_ ?_; (focus (simp; done)); conv => whnf)
    | (refine br_false (decide_eq_false (by omega)) ?_; conv => whnf)
    | (refine draw_call (by decide +kernel) ?_; conv => whnf)
    | (refine StoreK.mk rfl ?_; conv => whnf)
    | exact join_same
    | exact (by assumption : (_ : Bool) = (_ : Bool))
    | (refine br_true (by assumption) ?_; conv => whnf)
    | (refine br_false (by assumption) ?_; conv => whnf)
    | (refine br_not ?_; conv => whnf)
    | (refine br_code ?_; conv => whnf)
    | (with_reducible refine br_and ?_; conv => whnf)
    | (with_reducible refine br_or ?_; conv => whnf)
    | (refine br_eq2 ?_; conv => whnf)
    | (refine c_laws_toCorner.call ?_; conv => whnf)
    | (refine c_laws_toCorner.quiet ?_; conv => whnf)
    | (refine c_eqCorner_same.call ?_; conv => whnf)
    | (refine c_eqCorner_same.quiet ?_; conv => whnf)
    | (refine draw_auto (by decide +kernel) ?_; conv => whnf)
    | (refine draw_asg (by decide +kernel) ?_; conv => whnf)
    | (refine draw_st (by decide +kernel) ?_; conv => whnf)
    | (refine draw_call (by decide +kernel) ?_; conv => whnf)
    | (refine enter_same (loop_n 12 ?_); conv => whnf)
    | (refine next_same ?_; conv => whnf)
    | (refine mapK_row (by assumption) ?_; conv => whnf)
    | (refine mapK_plain (Plain.of rfl) ?_; conv => whnf)
    | (refine mapK_lit ?_; conv => whnf)
    | (refine br_split (fun _ => ?_) (fun _ => ?_) <;> conv => whnf)
    | exact (rfl : (_ : Value) = _)
    | (simp only [*]; exact (rfl : (_ : Value) = _))
    | (simp [*]; done))

theorem p_impl_SumOfCorners_rnh {a b c d e f g i m : Int}  (h : isCornF a b c d = true) (k : isCornF e f g i = true) (hb : (bigF a b c d || bigF e f g i) = true) (hm : isCoordF m = false) : Pure Try.prog n_impl_SumOfCorners [q4 a b c d, q4 e f g i, ii m] (t2 (q4 0 0 0 0) (ii 2)) := pure_ofX rfl rfl (c_impl_SumOfCorners_rnh h k hb hm)

theorem p_spec_SumOfCorners_rnh {a b c d e f g i m : Int}  (h : isCornF a b c d = true) (k : isCornF e f g i = true) (hb : (bigF a b c d || bigF e f g i) = true) (hm : isCoordF m = false) : Pure Try.prog n_spec_SumOfCorners [q4 a b c d, q4 e f g i, ii m] (t2 (q4 0 0 0 0) (ii 2)) := pure_ofX rfl rfl (c_spec_SumOfCorners_rnh h k hb hm)

theorem c_law_SumOfCorners_rnh {a b c d e f g i m : Int}  (h : isCornF a b c d = true) (k : isCornF e f g i = true) (hb : (bigF a b c d || bigF e f g i) = true) (hm : isCoordF m = false) : Pure Try.prog n_laws_FnExactSumOfCorners [q4 a b c d, q4 e f g i, ii m] (bb true) := by
  refine pure_of good fn_laws_FnExactSumOfCorners rfl rfl ?_
  conv => whnf
  all_goals (repeat' first
    | (refine (p_impl_SumOfCorners_rnh h k hb hm).quiet ?_; conv => whnf)
    | (refine (p_impl_SumOfCorners_rnh h k hb hm).call ?_; conv => whnf)
    | (refine (p_spec_SumOfCorners_rnh h k hb hm).quiet ?_; conv => whnf)
    | (refine (p_spec_SumOfCorners_rnh h k hb hm).call ?_; conv => whnf)
    | (refine br_true ?_ ?_; (focus (simp; done)); conv => whnf)
    | (refine br_false ?_ ?_; (focus (simp; done)); conv => whnf)
    | (refine br_false (decide_eq_false (by omega)) ?_; conv => whnf)
    | (refine draw_call (by decide +kernel) ?_; conv => whnf)
    | (refine StoreK.mk rfl ?_; conv => whnf)
    | exact join_same
    | exact (by assumption : (_ : Bool) = (_ : Bool))
    | (refine br_true (by assumption) ?_; conv => whnf)
    | (refine br_false (by assumption) ?_; conv => whnf)
    | (refine br_not ?_; conv => whnf)
    | (refine br_code ?_; conv => whnf)
    | (with_reducible refine br_and ?_; conv => whnf)
    | (with_reducible refine br_or ?_; conv => whnf)
    | (refine br_eq2 ?_; conv => whnf)
    | (refine c_laws_toCorner.call ?_; conv => whnf)
    | (refine c_laws_toCorner.quiet ?_; conv => whnf)
    | (refine c_eqCorner_same.call ?_; conv => whnf)
    | (refine c_eqCorner_same.quiet ?_; conv => whnf)
    | (refine draw_auto (by decide +kernel) ?_; conv => whnf)
    | (refine draw_asg (by decide +kernel) ?_; conv => whnf)
    | (refine draw_st (by decide +kernel) ?_; conv => whnf)
    | (refine draw_call (by decide +kernel) ?_; conv => whnf)
    | (refine enter_same (loop_n 12 ?_); conv => whnf)
    | (refine next_same ?_; conv => whnf)
    | (refine mapK_row (by assumption) ?_; conv => whnf)
    | (refine mapK_plain (Plain.of rfl) ?_; conv => whnf)
    | (refine mapK_lit ?_; conv => whnf)
    | (refine br_split (fun _ => ?_) (fun _ => ?_) <;> conv => whnf)
    | exact (rfl : (_ : Value) = _)
    | (simp only [*]; exact (rfl : (_ : Value) = _))
    | (simp [*]; done))

theorem p_impl_SumOfCorners_huge {a b c d e f g i m : Int}  (h : isCornF a b c d = true) (k : isCornF e f g i = true) (hm : isCoordF m = true) (hb : (bigF a b c d || bigF e f g i) = true) : Pure Try.prog n_impl_SumOfCorners [q4 a b c d, q4 e f g i, ii m] (t2 (q4 0 0 0 0) (ii 3)) := pure_ofX rfl rfl (c_impl_SumOfCorners_huge h k hm hb)

theorem p_spec_SumOfCorners_huge {a b c d e f g i m : Int}  (h : isCornF a b c d = true) (k : isCornF e f g i = true) (hm : isCoordF m = true) (hb : (bigF a b c d || bigF e f g i) = true) : Pure Try.prog n_spec_SumOfCorners [q4 a b c d, q4 e f g i, ii m] (t2 (q4 0 0 0 0) (ii 3)) := pure_ofX rfl rfl (c_spec_SumOfCorners_huge h k hm hb)

theorem c_law_SumOfCorners_huge {a b c d e f g i m : Int}  (h : isCornF a b c d = true) (k : isCornF e f g i = true) (hm : isCoordF m = true) (hb : (bigF a b c d || bigF e f g i) = true) : Pure Try.prog n_laws_FnExactSumOfCorners [q4 a b c d, q4 e f g i, ii m] (bb true) := by
  refine pure_of good fn_laws_FnExactSumOfCorners rfl rfl ?_
  conv => whnf
  all_goals (repeat' first
    | (refine (p_impl_SumOfCorners_huge h k hm hb).quiet ?_; conv => whnf)
    | (refine (p_impl_SumOfCorners_huge h k hm hb).call ?_; conv => whnf)
    | (refine (p_spec_SumOfCorners_huge h k hm hb).quiet ?_; conv => whnf)
    | (refine (p_spec_SumOfCorners_huge h k hm hb).call ?_; conv => whnf)
    | (refine br_true ?_ ?_; (focus (simp; done)); conv => whnf)
    | (refine br_false ?_ ?_; (focus (simp; done)); conv => whnf)
    | (refine br_false (decide_eq_false (by omega)) ?_; conv => whnf)
    | (refine draw_call (by decide +kernel) ?_; conv => whnf)
    | (refine StoreK.mk rfl ?_; conv => whnf)
    | exact join_same
    | exact (by assumption : (_ : Bool) = (_ : Bool))
    | (refine br_true (by assumption) ?_; conv => whnf)
    | (refine br_false (by assumption) ?_; conv => whnf)
    | (refine br_not ?_; conv => whnf)
    | (refine br_code ?_; conv => whnf)
    | (with_reducible refine br_and ?_; conv => whnf)
    | (with_reducible refine br_or ?_; conv => whnf)
    | (refine br_eq2 ?_; conv => whnf)
    | (refine c_laws_toCorner.call ?_; conv => whnf)
    | (refine c_laws_toCorner.quiet ?_; conv => whnf)
    | (refine c_eqCorner_same.call ?_; conv => whnf)
    | (refine c_eqCorner_same.quiet ?_; conv => whnf)
    | (refine draw_auto (by decide +kernel) ?_; conv => whnf)
    | (refine draw_asg (by decide +kernel) ?_; conv => whnf)
    | (refine draw_st (by decide +kernel) ?_; conv => whnf)
    | (refine draw_call (by decide +kernel) ?_; conv => whnf)
    | (refine enter_same (loop_n 12 ?_); conv => whnf)
    | (refine next_same ?_; conv => whnf)
    | (refine mapK_row (by assumption) ?_; conv => whnf)
    | (refine mapK_plain (Plain.of rfl) ?_; conv => whnf)
    | (refine mapK_lit ?_; conv => whnf)
    | (refine br_split (fun _ => ?_) (fun _ => ?_) <;> conv => whnf)
    | exact (rfl : (_ : Value) = _)
    | (simp only [*]; exact (rfl : (_ : Value) = _))
    | (simp [*]; done))

theorem p_impl_SumOfCorners_long {a b c d e f g i m : Int}  (h : isCornF a b c d = true) (k : isCornF e f g i = true) (hm : isCoordF m = true) (h2 : bigF a b c d = false) (k2 : bigF e f g i = false) (hl : ¬ (sumL (longL (expL (sineF a b c d) (cosF a b c d))) (longL (expL (sineF e f g i) (cosF e f g i))) m).length ≤ 60) : Pure Try.prog n_impl_SumOfCorners [q4 a b c d, q4 e f g i, ii m] (t2 (q4 0 0 0 0) (ii 3)) := pure_ofX rfl rfl (c_impl_SumOfCorners_long h k hm h2 k2 hl)

theorem p_spec_SumOfCorners_long {a b c d e f g i m : Int}  (h : isCornF a b c d = true) (k : isCornF e f g i = true) (hm : isCoordF m = true) (h2 : bigF a b c d = false) (k2 : bigF e f g i = false) (hl : ¬ (sumL (longL (expL (sineF a b c d) (cosF a b c d))) (longL (expL (sineF e f g i) (cosF e f g i))) m).length ≤ 60) : Pure Try.prog n_spec_SumOfCorners [q4 a b c d, q4 e f g i, ii m] (t2 (q4 0 0 0 0) (ii 3)) := pure_ofX rfl rfl (c_spec_SumOfCorners_long h k hm h2 k2 hl)

theorem c_law_SumOfCorners_long {a b c d e f g i m : Int}  (h : isCornF a b c d = true) (k : isCornF e f g i = true) (hm : isCoordF m = true) (h2 : bigF a b c d = false) (k2 : bigF e f g i = false) (hl : ¬ (sumL (longL (expL (sineF a b c d) (cosF a b c d))) (longL (expL (sineF e f g i) (cosF e f g i))) m).length ≤ 60) : Pure Try.prog n_laws_FnExactSumOfCorners [q4 a b c d, q4 e f g i, ii m] (bb true) := by
  refine pure_of good fn_laws_FnExactSumOfCorners rfl rfl ?_
  conv => whnf
  all_goals (repeat' first
    | (refine (p_impl_SumOfCorners_long h k hm h2 k2 hl).quiet ?_; conv => whnf)
    | (refine (p_impl_SumOfCorners_long h k hm h2 k2 hl).call ?_; conv => whnf)
    | (refine (p_spec_SumOfCorners_long h k hm h2 k2 hl).quiet ?_; conv => whnf)
    | (refine (p_spec_SumOfCorners_long h k hm h2 k2 hl).call ?_; conv => whnf)
    | (refine br_true ?_ ?_; (focus (simp; done)); conv => whnf)
    | (refine br_false ?_ ?_; (focus (simp; done)); conv => whnf)
    | (refine br_false (decide_eq_false (by omega)) ?_; conv => whnf)
    | (refine draw_call (by decide +kernel) ?_; conv => whnf)
    | (refine StoreK.mk rfl ?_; conv => whnf)
    | exact join_same
    | exact (by assumption : (_ : Bool) = (_ : Bool))
    | (refine br_true (by assumption) ?_; conv => whnf)
    | (refine br_false (by assumption) ?_; conv => whnf)
    | (refine br_not ?_; conv => whnf)
    | (refine br_code ?_; conv => whnf)
    | (with_reducible refine br_and ?_; conv => whnf)
    | (with_reducible refine br_or ?_; conv => whnf)
    | (refine br_eq2 ?_; conv => whnf)
    | (refine c_laws_toCorner.call ?_; conv => whnf)
    | (refine c_laws_toCorner.quiet ?_; conv => whnf)
    | (refine c_eqCorner_same.call ?_; conv => whnf)
    | (refine c_eqCorner_same.quiet ?_; conv => whnf)
    | (refine draw_auto (by decide +kernel) ?_; conv => whnf)
    | (refine draw_asg (by decide +kernel) ?_; conv => whnf)
    | (refine draw_st (by decide +kernel) ?_; conv => whnf)
    | (refine draw_call (by decide +kernel) ?_; conv => whnf)
    | (refine enter_same (loop_n 12 ?_); conv => whnf)
    | (refine next_same ?_; conv => whnf)
    | (refine mapK_row (by assumption) ?_; conv => whnf)
    | (refine mapK_plain (Plain.of rfl) ?_; conv => whnf)
    | (refine mapK_lit ?_; conv => whnf)
    | (refine br_split (fun _ => ?_) (fun _ => ?_) <;> conv => whnf)
    | exact (rfl : (_ : Value) = _)
    | (simp only [*]; exact (rfl : (_ : Value) = _))
    | (simp [*]; done))

theorem p_impl_SumOfCorners_none {a b c d e f g i m : Int}  (h : isCornF a b c d = true) (k : isCornF e f g i = true) (hm : isCoordF m = true) (h2 : bigF a b c d = false) (k2 : bigF e f g i = false) (hl : (sumL (longL (expL (sineF a b c d) (cosF a b c d))) (longL (expL (sineF e f g i) (cosF e f g i))) m).length ≤ 60) (hg : ofGo (sumL (longL (expL (sineF a b c d) (cosF a b c d))) (longL (expL (sineF e f g i) (cosF e f g i))) m).reverse 1 0 = none) : Pure Try.prog n_impl_SumOfCorners [q4 a b c d, q4 e f g i, ii m] (t2 (q4 0 0 0 0) (ii 3)) := pure_ofX rfl rfl (c_impl_SumOfCorners_none h k hm h2 k2 hl hg)

theorem p_spec_SumOfCorners_none {a b c d e f g i m : Int}  (h : isCornF a b c d = true) (k : isCornF e f g i = true) (hm : isCoordF m = true) (h2 : bigF a b c d = false) (k2 : bigF e f g i = false) (hl : (sumL (longL (expL (sineF a b c d) (cosF a b c d))) (longL (expL (sineF e f g i) (cosF e f g i))) m).length ≤ 60) (hg : ofGo (sumL (longL (expL (sineF a b c d) (cosF a b c d))) (longL (expL (sineF e f g i) (cosF e f g i))) m).reverse 1 0 = none) : Pure Try.prog n_spec_SumOfCorners [q4 a b c d, q4 e f g i, ii m] (t2 (q4 0 0 0 0) (ii 3)) := pure_ofX rfl rfl (c_spec_SumOfCorners_none h k hm h2 k2 hl hg)

theorem c_law_SumOfCorners_none {a b c d e f g i m : Int}  (h : isCornF a b c d = true) (k : isCornF e f g i = true) (hm : isCoordF m = true) (h2 : bigF a b c d = false) (k2 : bigF e f g i = false) (hl : (sumL (longL (expL (sineF a b c d) (cosF a b c d))) (longL (expL (sineF e f g i) (cosF e f g i))) m).length ≤ 60) (hg : ofGo (sumL (longL (expL (sineF a b c d) (cosF a b c d))) (longL (expL (sineF e f g i) (cosF e f g i))) m).reverse 1 0 = none) : Pure Try.prog n_laws_FnExactSumOfCorners [q4 a b c d, q4 e f g i, ii m] (bb true) := by
  refine pure_of good fn_laws_FnExactSumOfCorners rfl rfl ?_
  conv => whnf
  all_goals (repeat' first
    | (refine (p_impl_SumOfCorners_none h k hm h2 k2 hl hg).quiet ?_; conv => whnf)
    | (refine (p_impl_SumOfCorners_none h k hm h2 k2 hl hg).call ?_; conv => whnf)
    | (refine (p_spec_SumOfCorners_none h k hm h2 k2 hl hg).quiet ?_; conv => whnf)
    | (refine (p_spec_SumOfCorners_none h k hm h2 k2 hl hg).call ?_; conv => whnf)
    | (refine br_true ?_ ?_; (focus (simp; done)); conv => whnf)
    | (refine br_false ?_ ?_; (focus (simp; done)); conv => whnf)
    | (refine br_false (decide_eq_false (by omega)) ?_; conv => whnf)
    | (refine draw_call (by decide +kernel) ?_; conv => whnf)
    | (refine StoreK.mk rfl ?_; conv => whnf)
    | exact join_same
    | exact (by assumption : (_ : Bool) = (_ : Bool))
    | (refine br_true (by assumption) ?_; conv => whnf)
    | (refine br_false (by assumption) ?_; conv => whnf)
    | (refine br_not ?_; conv => whnf)
    | (refine br_code ?_; conv => whnf)
    | (with_reducible refine br_and ?_; conv => whnf)
    | (with_reducible refine br_or ?_; conv => whnf)
    | (refine br_eq2 ?_; conv => whnf)
    | (refine c_laws_toCorner.call ?_; conv => whnf)
    | (refine c_laws_toCorner.quiet ?_; conv => whnf)
    | (refine c_eqCorner_same.call ?_; conv => whnf)
    | (refine c_eqCorner_same.quiet ?_; conv => whnf)
    | (refine draw_auto (by decide +kernel) ?_; conv => whnf)
    | (refine draw_asg (by decide +kernel) ?_; conv => whnf)
    | (refine draw_st (by decide +kernel) ?_; conv => whnf)
    | (refine draw_call (by decide +kernel) ?_; conv => whnf)
    | (refine enter_same (loop_n 12 ?_); conv => whnf)
    | (refine next_same ?_; conv => whnf)
    | (refine mapK_row (by assumption) ?_; conv => whnf)
    | (refine mapK_plain (Plain.of rfl) ?_; conv => whnf)
    | (refine mapK_lit ?_; conv => whnf)
    | (refine br_split (fun _ => ?_) (fun _ => ?_) <;> conv => whnf)
    | exact (rfl : (_ : Value) = _)
    | (simp only [*]; exact (rfl : (_ : Value) = _))
    | (simp [*]; done))

theorem p_impl_SumOfCorners_zero {a b c d e f g i m : Int} {p q : Int} (h : isCornF a b c d = true) (k : isCornF e f g i = true) (hm : isCoordF m = true) (h2 : bigF a b c d = false) (k2 : bigF e f g i = false) (hl : (sumL (longL (expL (sineF a b c d) (cosF a b c d))) (longL (expL (sineF e f g i) (cosF e f g i))) m).length ≤ 60) (hg : ofGo (sumL (longL (expL (sineF a b c d) (cosF a b c d))) (longL (expL (sineF e f g i) (cosF e f g i))) m).reverse 1 0 = some (p, q)) (hp : p = 0) : Pure Try.prog n_impl_SumOfCorners [q4 a b c d, q4 e f g i, ii m] (t2 (q4 0 0 0 0) (ii 5)) := pure_ofX rfl rfl (c_impl_SumOfCorners_zero h k hm h2 k2 hl hg hp)

theorem p_spec_SumOfCorners_zero {a b c d e f g i m : Int} {p q : Int} (h : isCornF a b c d = true) (k : isCornF e f g i = true) (hm : isCoordF m = true) (h2 : bigF a b c d = false) (k2 : bigF e f g i = false) (hl : (sumL (longL (expL (sineF a b c d) (cosF a b c d))) (longL (expL (sineF e f g i) (cosF e f g i))) m).length ≤ 60) (hg : ofGo (sumL (longL (expL (sineF a b c d) (cosF a b c d))) (longL (expL (sineF e f g i) (cosF e f g i))) m).reverse 1 0 = some (p, q)) (hp : p = 0) : Pure Try.prog n_spec_SumOfCorners [q4 a b c d, q4 e f g i, ii m] (t2 (q4 0 0 0 0) (ii 5)) := pure_ofX rfl rfl (c_spec_SumOfCorners_zero h k hm h2 k2 hl hg hp)

theorem c_law_SumOfCorners_zero {a b c d e f g i m : Int} {p q : Int} (h : isCornF a b c d = true) (k : isCornF e f g i = true) (hm : isCoordF m = true) (h2 : bigF a b c d = false) (k2 : bigF e f g i = false) (hl : (sumL (longL (expL (sineF a b c d) (cosF a b c d))) (longL (expL (sineF e f g i) (cosF e f g i))) m).length ≤ 60) (hg : ofGo (sumL (longL (expL (sineF a b c d) (cosF a b c d))) (longL (expL (sineF e f g i) (cosF e f g i))) m).reverse 1 0 = some (p, q)) (hp : p = 0) : Pure Try.prog n_laws_FnExactSumOfCorners [q4 a b c d, q4 e f g i, ii m] (bb true) := by
  refine pure_of good fn_laws_FnExactSumOfCorners rfl rfl ?_
  conv => whnf
  all_goals (repeat' first
    | (refine (p_impl_SumOfCorners_zero h k hm h2 k2 hl hg hp).quiet ?_; conv => whnf)
    | (refine (p_impl_SumOfCorners_zero h k hm h2 k2 hl hg hp).call ?_; conv => whnf)
    | (refine (p_spec_SumOfCorners_zero h k hm h2 k2 hl hg hp).quiet ?_; conv => whnf)
    | (refine (p_spec_SumOfCorners_zero h k hm h2 k2 hl hg hp).call ?_; conv => whnf)
    | (refine br_true ?_ ?_; (focus (simp; done)); conv => whnf)
    | (refine br_false ?_ ?_; (focus (simp; done)); conv => whnf)
    | (refine br_false (decide_eq_false (by omega)) ?_; conv => whnf)
    | (refine draw_call (by decide +kernel) ?_; conv => whnf)
    | (refine StoreK.mk rfl ?_; conv => whnf)
    | exact join_same
    | exact (by assumption : (_ : Bool) = (_ : Bool))
    | (refine br_true (by assumption) ?_; conv => whnf)
    | (refine br_false (by assumption) ?_; conv => whnf)
    | (refine br_not ?_; conv => whnf)
    | (refine br_code ?_; conv => whnf)
    | (with_reducible refine br_and ?_; conv => whnf)
    | (with_reducible refine br_or ?_; conv => whnf)
    | (refine br_eq2 ?_; conv => whnf)
    | (refine c_laws_toCorner.call ?_; conv => whnf)
    | (refine c_laws_toCorner.quiet ?_; conv => whnf)
    | (refine c_eqCorner_same.call ?_; conv => whnf)
    | (refine c_eqCorner_same.quiet ?_; conv => whnf)
    | (refine draw_auto (by decide +kernel) ?_; conv => whnf)
    | (refine draw_asg (by decide +kernel) ?_; conv => whnf)
    | (refine draw_st (by decide +kernel) ?_; conv => whnf)
    | (refine draw_call (by decide +kernel) ?_; conv => whnf)
    | (refine enter_same (loop_n 12 ?_); conv => whnf)
    | (refine next_same ?_; conv => whnf)
    | (refine mapK_row (by assumption) ?_; conv => whnf)
    | (refine mapK_plain (Plain.of rfl) ?_; conv => whnf)
    | (refine mapK_lit ?_; conv => whnf)
    | (refine br_split (fun _ => ?_) (fun _ => ?_) <;> conv => whnf)
    | exact (rfl : (_ : Value) = _)
    | (simp only [*]; exact (rfl : (_ : Value) = _))
    | (simp [*]; done))

theorem p_impl_SumOfCorners_ok {a b c d e f g i m : Int} {p q : Int} (h : isCornF a b c d = true) (k : isCornF e f g i = true) (hm : isCoordF m = true) (h2 : bigF a b c d = false) (k2 : bigF e f g i = false) (hl : (sumL (longL (expL (sineF a b c d) (cosF a b c d))) (longL (expL (sineF e f g i) (cosF e f g i))) m).length ≤ 60) (hg : ofGo (sumL (longL (expL (sineF a b c d) (cosF a b c d))) (longL (expL (sineF e f g i) (cosF e f g i))) m).reverse 1 0 = some (p, q)) (hp : ¬ p = 0) : Pure Try.prog n_impl_SumOfCorners [q4 a b c d, q4 e f g i, ii m] (t2 (q4 1 0 (cosF 1 0 q p) (sineF 1 0 q p)) (ii 0)) := pure_ofX rfl rfl (c_impl_SumOfCorners_ok h k hm h2 k2 hl hg hp)

theorem p_spec_SumOfCorners_ok {a b c d e f g i m : Int} {p q : Int} (h : isCornF a b c d = true) (k : isCornF e f g i = true) (hm : isCoordF m = true) (h2 : bigF a b c d = false) (k2 : bigF e f g i = false) (hl : (sumL (longL (expL (sineF a b c d) (cosF a b c d))) (longL (expL (sineF e f g i) (cosF e f g i))) m).length ≤ 60) (hg : ofGo (sumL (longL (expL (sineF a b c d) (cosF a b c d))) (longL (expL (sineF e f g i) (cosF e f g i))) m).reverse 1 0 = some (p, q)) (hp : ¬ p = 0) : Pure Try.prog n_spec_SumOfCorners [q4 a b c d, q4 e f g i, ii m] (t2 (q4 1 0 (cosF 1 0 q p) (sineF 1 0 q p)) (ii 0)) := pure_ofX rfl rfl (c_spec_SumOfCorners_ok h k hm h2 k2 hl hg hp)

theorem c_law_SumOfCorners_ok {a b c d e f g i m : Int} {p q : Int} (h : isCornF a b c d = true) (k : isCornF e f g i = true) (hm : isCoordF m = true) (h2 : bigF a b c d = false) (k2 : bigF e f g i = false) (hl : (sumL (longL (expL (sineF a b c d) (cosF a b c d))) (longL (expL (sineF e f g i) (cosF e f g i))) m).length ≤ 60) (hg : ofGo (sumL (longL (expL (sineF a b c d) (cosF a b c d))) (longL (expL (sineF e f g i) (cosF e f g i))) m).reverse 1 0 = some (p, q)) (hp : ¬ p = 0) : Pure Try.prog n_laws_FnExactSumOfCorners [q4 a b c d, q4 e f g i, ii m] (bb true) := by
  refine pure_of good fn_laws_FnExactSumOfCorners rfl rfl ?_
  conv => whnf
  all_goals (repeat' first
    | (refine (p_impl_SumOfCorners_ok h k hm h2 k2 hl hg hp).quiet ?_; conv => whnf)
    | (refine (p_impl_SumOfCorners_ok h k hm h2 k2 hl hg hp).call ?_; conv => whnf)
    | (refine (p_spec_SumOfCorners_ok h k hm h2 k2 hl hg hp).quiet ?_; conv => whnf)
    | (refine (p_spec_SumOfCorners_ok h k hm h2 k2 hl hg hp).call ?_; conv => whnf)
    | (refine br_true ?_ ?_; (focus (simp; done)); conv => whnf)
    | (refine br_false ?_ ?_; (focus (simp; done)); conv => whnf)
    | (refine br_false (decide_eq_false (by omega)) ?_; conv => whnf)
    | (refine draw_call (by decide +kernel) ?_; conv => whnf)
    | (refine StoreK.mk rfl ?_; conv => whnf)
    | exact join_same
    | exact (by assumption : (_ : Bool) = (_ : Bool))
    | (refine br_true (by assumption) ?_; conv => whnf)
    | (refine br_false (by assumption) ?_; conv => whnf)
    | (refine br_not ?_; conv => whnf)
    | (refine br_code ?_; conv => whnf)
    | (with_reducible refine br_and ?_; conv => whnf)
    | (with_reducible refine br_or ?_; conv => whnf)
    | (refine br_eq2 ?_; conv => whnf)
    | (refine c_laws_toCorner.call ?_; conv => whnf)
    | (refine c_laws_toCorner.quiet ?_; conv => whnf)
    | (refine c_eqCorner_same.call ?_; conv => whnf)
    | (refine c_eqCorner_same.quiet ?_; conv => whnf)
    | (refine draw_auto (by decide +kernel) ?_; conv => whnf)
    | (refine draw_asg (by decide +kernel) ?_; conv => whnf)
    | (refine draw_st (by decide +kernel) ?_; conv => whnf)
    | (refine draw_call (by decide +kernel) ?_; conv => whnf)
    | (refine enter_same (loop_n 12 ?_); conv => whnf)
    | (refine next_same ?_; conv => whnf)
    | (refine mapK_row (by assumption) ?_; conv => whnf)
    | (refine mapK_plain (Plain.of rfl) ?_; conv => whnf)
    | (refine mapK_lit ?_; conv => whnf)
    | (refine br_split (fun _ => ?_) (fun _ => ?_) <;> conv => whnf)
    | exact (rfl : (_ : Value) = _)
    | (simp only [*]; exact (rfl : (_ : Value) = _))
    | (simp [*]; done))

theorem c_laws_FnExactSumOfCorners {a b c d e f g i m : Int} : Pure Try.prog n_laws_FnExactSumOfCorners [q4 a b c d, q4 e f g i, ii m] (bb true) := by
  cases hk : (isCornF a b c d && isCornF e f g i)
  · exact c_law_SumOfCorners_bad hk
  · rw [Bool.and_eq_true] at hk
    obtain ⟨h, k⟩ := hk
    cases hb : (bigF a b c d || bigF e f g i)
    · rw [Bool.or_eq_false_iff] at hb
      obtain ⟨h2, k2⟩ := hb
      cases hm : isCoordF m
      · exact c_law_SumOfCorners_rng h k h2 k2 hm
      · by_cases hl : (sumL (longL (expL (sineF a b c d) (cosF a b c d))) (longL (expL (sineF e f g i) (cosF e f g i))) m).length ≤ 60
        · cases hg : ofGo (sumL (longL (expL (sineF a b c d) (cosF a b c d))) (longL (expL (sineF e f g i) (cosF e f g i))) m).reverse 1 0 with
          | none => exact c_law_SumOfCorners_none h k hm h2 k2 hl hg
          | some s =>
            obtain ⟨p, q⟩ := s
            by_cases hp : p = 0
            · exact c_law_SumOfCorners_zero h k hm h2 k2 hl hg hp
            · exact c_law_SumOfCorners_ok h k hm h2 k2 hl hg hp
        · exact c_law_SumOfCorners_long h k hm h2 k2 hl
    · cases hm : isCoordF m
      · exact c_law_SumOfCorners_rnh h k hb hm
      · exact c_law_SumOfCorners_huge h k hm hb

end Go.Proofs.Ytlkbfpklhncfbaa
