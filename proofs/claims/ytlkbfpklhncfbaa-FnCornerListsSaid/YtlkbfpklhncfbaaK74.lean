/-
  Contracts of functions of the program (printed by a program of this work; Lean checks each).
  Conditions: as each contract states.
-/
import Derived.Test.YtlkbfpklhncfbaaK73
namespace Go.Proofs.Ytlkbfpklhncfbaa
open Go.Ev Go.RowKit
set_option maxRecDepth 100000
set_option linter.unusedVariables false
set_option linter.unusedSimpArgs false

attribute [local irreducible] isCornF bigF detF ofGo isCoordF longL

set_option maxHeartbeats 4000000 in
theorem c_impl_SumOfCorners_long {a b c d e f g i m : Int}  (h : isCornF a b c d = true) (k : isCornF e f g i = true) (hm : isCoordF m = true) (h2 : bigF a b c d = false) (k2 : bigF e f g i = false) (hl : ¬ (sumL (longL (expL (sineF a b c d) (cosF a b c d))) (longL (expL (sineF e f g i) (cosF e f g i))) m).length ≤ 60) : CallOK Try.prog n_impl_SumOfCorners [q4 a b c d, q4 e f g i, ii m] [] (fun v m_ => v = t2 (q4 0 0 0 0) (ii 3) ∧ m_ = []) := by
  refine callOK_ofF good fn_impl_SumOfCorners ?_
  conv => whnf
  all_goals (repeat' first
    | (refine CallR.call1 (impl_lim_ok h k h2 k2) rfl rfl ⟨_, rfl⟩ ?_; conv => whnf)
    | (refine CallOK.useR (c_expansion h h2) [] rfl rfl rfl trivial (fun v_ mem_ hR => ?_); obtain ⟨nx_, cx_, spx_, rowx_, hnx_, rfl, rfl⟩ := hR; refine ⟨rfl, ?_⟩; conv => whnf)
    | (refine CallOK.useR (c_expansion k k2) [] rfl rfl rfl trivial (fun v_ mem_ hR => ?_); obtain ⟨ny_, cy_, spy_, rowy_, hny_, rfl, rfl⟩ := hR; refine ⟨rfl, ?_⟩; conv => whnf)
    | (refine draw_pt (.take 2 (.trio 0 (.trio 1 (.duo 3 (.solo 4 (.solo 5 (.solo 6 (.solo 7 (.solo 8 .done))))) 4 (.duo 3 (.solo 5 (.solo 6 (.solo 7 (.solo 8 .done)))) 5 (.solo 3 (.solo 6 (.solo 7 (.solo 8 .done)))))) 3 (.duo 1 (.solo 4 (.solo 5 (.solo 6 (.solo 7 (.solo 8 .done))))) 4 (.solo 1 (.solo 5 (.solo 6 (.solo 7 (.solo 8 .done)))))) 4 (.duo 1 (.duo 3 (.solo 5 (.solo 6 (.solo 7 (.solo 8 .done)))) 5 (.solo 3 (.solo 6 (.solo 7 (.solo 8 .done))))) 3 (.solo 1 (.solo 5 (.solo 6 (.solo 7 (.solo 8 .done))))))) 3 (.duo 0 (.duo 1 (.solo 4 (.solo 5 (.solo 6 (.solo 7 (.solo 8 .done))))) 4 (.solo 1 (.solo 5 (.solo 6 (.solo 7 (.solo 8 .done)))))) 4 (.solo 0 (.solo 1 (.solo 5 (.solo 6 (.solo 7 (.solo 8 .done))))))) 4 (.duo 0 (.duo 1 (.duo 3 (.solo 5 (.solo 6 (.solo 7 (.solo 8 .done)))) 5 (.solo 3 (.solo 6 (.solo 7 (.solo 8 .done))))) 3 (.solo 1 (.solo 5 (.solo 6 (.solo 7 (.solo 8 .done)))))) 3 (.solo 0 (.solo 1 (.solo 5 (.solo 6 (.solo 7 (.solo 8 .done))))))))) (by decide +kernel) ?_; conv => whnf)
    | (refine And.intro ?_ ?_ <;> conv => whnf)
    | (refine CallOK.useR (c_Concat rowx_ (ys := [m]) (sy := []) (n2 := 1) (c2 := 1) (Row.lit rfl rfl) rowy_ hnx_ (by omega) hny_) [_, _, _, _] rfl rfl rfl ⟨⟨⟨_, rfl, .lit rfl (fun _ h_ => by cases h_) (fun v hv => okB0_spec (allL_spec rfl v hv))⟩⟩, ⟨⟨_, rfl, .plain rfl (fun _ h_ => by cases h_) (Row.all rowx_)⟩⟩, ⟨⟨_, rfl, .plain rfl (fun _ h_ => by cases h_) (Plain.of rfl)⟩⟩, ⟨⟨_, rfl, .plain rfl (fun _ h_ => by cases h_) (Row.all rowy_)⟩⟩, trivial⟩ (fun v_ mem_ hR => ?_); obtain ⟨n_, c_, sp_, hrow_, rfl, rfl⟩ := hR; replace hrow_ : Row (il (sumL (longL (expL (sineF a b c d) (cosF a b c d))) (longL (expL (sineF e f g i) (cosF e f g i))) m)) sp_ n_ c_ 1 := hrow_; refine ⟨rfl, ?_⟩; conv => whnf)
    | (refine draw_pt (.join [0, 1, 2, 3] (.duo 0 (.duo 1 (.solo 2 (.solo 3 .done)) 2 (.solo 1 (.solo 3 .done))) 2 (.solo 0 (.solo 1 (.solo 3 .done)))) (.solo 4 (.solo 5 (.solo 6 .done)))) (by decide +kernel) ?_; conv => whnf)
    | (refine br_true (b := decide ((n_ : Int) > 60)) (decide_eq_true (by have := row_il hrow_; omega)) ?_; conv => whnf)
    | exact out_forget [] ⟨rfl, rfl⟩ rfl (okB2_spec rfl) trivial rfl rfl
    | (refine StoreK.mk rfl ?_; conv => whnf)
    | exact join_same
    | exact (by assumption : (_ : Bool) = (_ : Bool))
    | (refine br_true (by assumption) ?_; conv => whnf)
    | (refine br_false (by assumption) ?_; conv => whnf)
    | (refine br_not ?_; conv => whnf)
    | (refine br_code ?_; conv => whnf)
    | (with_reducible refine br_and ?_; conv => whnf)
    | (with_reducible refine br_or ?_; conv => whnf)
    | (refine br_eq2 ?_; conv => whnf)
    | (refine c_impl_isCoord.call ?_; conv => whnf)
    | (refine c_impl_isCoord.quiet ?_; conv => whnf)
    | (refine c_impl_tangent.call ?_; conv => whnf)
    | (refine c_impl_tangent.quiet ?_; conv => whnf)
    | (refine c_impl_Corner_sine.call ?_; conv => whnf)
    | (refine c_impl_Corner_sine.quiet ?_; conv => whnf)
    | (refine (c_impl_Corner_cosine ?_).call ?_ <;> conv => whnf)
    | (refine (c_impl_Corner_cosine ?_).quiet ?_ <;> conv => whnf)
    | (refine draw_auto (by decide +kernel) ?_; conv => whnf)
    | (refine draw_asg (by decide +kernel) ?_; conv => whnf)
    | (refine draw_st (by decide +kernel) ?_; conv => whnf)
    | (refine draw_call (by decide +kernel) ?_; conv => whnf)
    | (refine enter_same (loop_n 12 ?_); conv => whnf)
    | (refine next_same ?_; conv => whnf)
    | (refine mapK_row (by assumption) ?_; conv => whnf)
    | (refine mapK_plain (Plain.of rfl) ?_; conv => whnf)
    | (refine mapK_lit ?_; conv => whnf)
    | (refine br_split (fun _ => ?_) (fun _ => ?_) <;> conv => whnf)
    | exact (rfl : (_ : Value) = _)
    | (simp only [*]; exact (rfl : (_ : Value) = _))
    | (simp [*]; done))

set_option maxHeartbeats 4000000 in
theorem c_impl_SumOfCorners_none {a b c d e f g i m : Int}  (h : isCornF a b c d = true) (k : isCornF e f g i = true) (hm : isCoordF m = true) (h2 : bigF a b c d = false) (k2 : bigF e f g i = false) (hl : (sumL (longL (expL (sineF a b c d) (cosF a b c d))) (longL (expL (sineF e f g i) (cosF e f g i))) m).length ≤ 60) (hg : ofGo (sumL (longL (expL (sineF a b c d) (cosF a b c d))) (longL (expL (sineF e f g i) (cosF e f g i))) m).reverse 1 0 = none) : CallOK Try.prog n_impl_SumOfCorners [q4 a b c d, q4 e f g i, ii m] [] (fun v m_ => v = t2 (q4 0 0 0 0) (ii 3) ∧ m_ = []) := by
  refine callOK_ofF good fn_impl_SumOfCorners ?_
  conv => whnf
  all_goals (repeat' first
    | (refine CallR.call1 (impl_lim_ok h k h2 k2) rfl rfl ⟨_, rfl⟩ ?_; conv => whnf)
    | (refine CallOK.useR (c_expansion h h2) [] rfl rfl rfl trivial (fun v_ mem_ hR => ?_); obtain ⟨nx_, cx_, spx_, rowx_, hnx_, rfl, rfl⟩ := hR; refine ⟨rfl, ?_⟩; conv => whnf)
    | (refine CallOK.useR (c_expansion k k2) [] rfl rfl rfl trivial (fun v_ mem_ hR => ?_); obtain ⟨ny_, cy_, spy_, rowy_, hny_, rfl, rfl⟩ := hR; refine ⟨rfl, ?_⟩; conv => whnf)
    | (refine draw_pt (.take 2 (.trio 0 (.trio 1 (.duo 3 (.solo 4 (.solo 5 (.solo 6 (.solo 7 (.solo 8 .done))))) 4 (.duo 3 (.solo 5 (.solo 6 (.solo 7 (.solo 8 .done)))) 5 (.solo 3 (.solo 6 (.solo 7 (.solo 8 .done)))))) 3 (.duo 1 (.solo 4 (.solo 5 (.solo 6 (.solo 7 (.solo 8 .done))))) 4 (.solo 1 (.solo 5 (.solo 6 (.solo 7 (.solo 8 .done)))))) 4 (.duo 1 (.duo 3 (.solo 5 (.solo 6 (.solo 7 (.solo 8 .done)))) 5 (.solo 3 (.solo 6 (.solo 7 (.solo 8 .done))))) 3 (.solo 1 (.solo 5 (.solo 6 (.solo 7 (.solo 8 .done))))))) 3 (.duo 0 (.duo 1 (.solo 4 (.solo 5 (.solo 6 (.solo 7 (.solo 8 .done))))) 4 (.solo 1 (.solo 5 (.solo 6 (.solo 7 (.solo 8 .done)))))) 4 (.solo 0 (.solo 1 (.solo 5 (.solo 6 (.solo 7 (.solo 8 .done))))))) 4 (.duo 0 (.duo 1 (.duo 3 (.solo 5 (.solo 6 (.solo 7 (.solo 8 .done)))) 5 (.solo 3 (.solo 6 (.solo 7 (.solo 8 .done))))) 3 (.solo 1 (.solo 5 (.solo 6 (.solo 7 (.solo 8 .done)))))) 3 (.solo 0 (.solo 1 (.solo 5 (.solo 6 (.solo 7 (.solo 8 .done))))))))) (by decide +kernel) ?_; conv => whnf)
    | (refine And.intro ?_ ?_ <;> conv => whnf)
    | (refine CallOK.useR (c_Concat rowx_ (ys := [m]) (sy := []) (n2 := 1) (c2 := 1) (Row.lit rfl rfl) rowy_ hnx_ (by omega) hny_) [_, _, _, _] rfl rfl rfl ⟨⟨⟨_, rfl, .lit rfl (fun _ h_ => by cases h_) (fun v hv => okB0_spec (allL_spec rfl v hv))⟩⟩, ⟨⟨_, rfl, .plain rfl (fun _ h_ => by cases h_) (Row.all rowx_)⟩⟩, ⟨⟨_, rfl, .plain rfl (fun _ h_ => by cases h_) (Plain.of rfl)⟩⟩, ⟨⟨_, rfl, .plain rfl (fun _ h_ => by cases h_) (Row.all rowy_)⟩⟩, trivial⟩ (fun v_ mem_ hR => ?_); obtain ⟨n_, c_, sp_, hrow_, rfl, rfl⟩ := hR; replace hrow_ : Row (il (sumL (longL (expL (sineF a b c d) (cosF a b c d))) (longL (expL (sineF e f g i) (cosF e f g i))) m)) sp_ n_ c_ 1 := hrow_; refine ⟨rfl, ?_⟩; conv => whnf)
    | (refine draw_pt (.join [0, 1, 2, 3] (.duo 0 (.duo 1 (.solo 2 (.solo 3 .done)) 2 (.solo 1 (.solo 3 .done))) 2 (.solo 0 (.solo 1 (.solo 3 .done)))) (.solo 4 (.solo 5 (.solo 6 .done)))) (by decide +kernel) ?_; conv => whnf)
    | (refine br_false (b := decide ((n_ : Int) > 60)) (decide_eq_false (by have := row_il hrow_; omega)) ?_; conv => whnf)
    | (refine CallR.call1 (c_ofList_big hrow_ (by have := row_il hrow_; omega) hg) rfl (plain_all (Row.all hrow_)) ⟨_, rfl⟩ ?_; conv => whnf)
    | exact out_forget [] ⟨rfl, rfl⟩ rfl (okB2_spec rfl) trivial rfl rfl
    | (refine StoreK.mk rfl ?_; conv => whnf)
    | exact join_same
    | exact (by assumption : (_ : Bool) = (_ : Bool))
    | (refine br_true (by assumption) ?_; conv => whnf)
    | (refine br_false (by assumption) ?_; conv => whnf)
    | (refine br_not ?_; conv => whnf)
    | (refine br_code ?_; conv => whnf)
    | (with_reducible refine br_and ?_; conv => whnf)
    | (with_reducible refine br_or ?_; conv => whnf)
    | (refine br_eq2 ?_; conv => whnf)
    | (refine c_impl_isCoord.call ?_; conv => whnf)
    | (refine c_impl_isCoord.quiet ?_; conv => whnf)
    | (refine c_impl_tangent.call ?_; conv => whnf)
    | (refine c_impl_tangent.quiet ?_; conv => whnf)
    | (refine c_impl_Corner_sine.call ?_; conv => whnf)
    | (refine c_impl_Corner_sine.quiet ?_; conv => whnf)
    | (refine (c_impl_Corner_cosine ?_).call ?_ <;> conv => whnf)
    | (refine (c_impl_Corner_cosine ?_).quiet ?_ <;> conv => whnf)
    | (refine draw_auto (by decide +kernel) ?_; conv => whnf)
    | (refine draw_asg (by decide +kernel) ?_; conv => whnf)
    | (refine draw_st (by decide +kernel) ?_; conv => whnf)
    | (refine draw_call (by decide +kernel) ?_; conv => whnf)
    | (refine enter_same (loop_n 12 ?_); conv => whnf)
    | (refine next_same ?_; conv => whnf)
    | (refine mapK_row (by assumption) ?_; conv => whnf)
    | (refine mapK_plain (Plain.of rfl) ?_; conv => whnf)
    | (refine mapK_lit ?_; conv => whnf)
    | (refine br_split (fun _ => ?_) (fun _ => ?_) <;> conv => whnf)
    | exact (rfl : (_ : Value) = _)
    | (simp only [*]; exact (rfl : (_ : Value) = _))
    | (simp [*]; done))

set_option maxHeartbeats 4000000 in
theorem c_impl_SumOfCorners_zero {a b c d e f g i m : Int} {p q : Int} (h : isCornF a b c d = true) (k : isCornF e f g i = true) (hm : isCoordF m = true) (h2 : bigF a b c d = false) (k2 : bigF e f g i = false) (hl : (sumL (longL (expL (sineF a b c d) (cosF a b c d))) (longL (expL (sineF e f g i) (cosF e f g i))) m).length ≤ 60) (hg : ofGo (sumL (longL (expL (sineF a b c d) (cosF a b c d))) (longL (expL (sineF e f g i) (cosF e f g i))) m).reverse 1 0 = some (p, q)) (hp : p = 0) : CallOK Try.prog n_impl_SumOfCorners [q4 a b c d, q4 e f g i, ii m] [] (fun v m_ => v = t2 (q4 0 0 0 0) (ii 5) ∧ m_ = []) := by
  refine callOK_ofF good fn_impl_SumOfCorners ?_
  conv => whnf
  all_goals (repeat' first
    | (refine CallR.call1 (impl_lim_ok h k h2 k2) rfl rfl ⟨_, rfl⟩ ?_; conv => whnf)
    | (refine CallOK.useR (c_expansion h h2) [] rfl rfl rfl trivial (fun v_ mem_ hR => ?_); obtain ⟨nx_, cx_, spx_, rowx_, hnx_, rfl, rfl⟩ := hR; refine ⟨rfl, ?_⟩; conv => whnf)
    | (refine CallOK.useR (c_expansion k k2) [] rfl rfl rfl trivial (fun v_ mem_ hR => ?_); obtain ⟨ny_, cy_, spy_, rowy_, hny_, rfl, rfl⟩ := hR; refine ⟨rfl, ?_⟩; conv => whnf)
    | (refine draw_pt (.take 2 (.trio 0 (.trio 1 (.duo 3 (.solo 4 (.solo 5 (.solo 6 (.solo 7 (.solo 8 .done))))) 4 (.duo 3 (.solo 5 (.solo 6 (.solo 7 (.solo 8 .done)))) 5 (.solo 3 (.solo 6 (.solo 7 (.solo 8 .done)))))) 3 (.duo 1 (.solo 4 (.solo 5 (.solo 6 (.solo 7 (.solo 8 .done))))) 4 (.solo 1 (.solo 5 (.solo 6 (.solo 7 (.solo 8 .done)))))) 4 (.duo 1 (.duo 3 (.solo 5 (.solo 6 (.solo 7 (.solo 8 .done)))) 5 (.solo 3 (.solo 6 (.solo 7 (.solo 8 .done))))) 3 (.solo 1 (.solo 5 (.solo 6 (.solo 7 (.solo 8 .done))))))) 3 (.duo 0 (.duo 1 (.solo 4 (.solo 5 (.solo 6 (.solo 7 (.solo 8 .done))))) 4 (.solo 1 (.solo 5 (.solo 6 (.solo 7 (.solo 8 .done)))))) 4 (.solo 0 (.solo 1 (.solo 5 (.solo 6 (.solo 7 (.solo 8 .done))))))) 4 (.duo 0 (.duo 1 (.duo 3 (.solo 5 (.solo 6 (.solo 7 (.solo 8 .done)))) 5 (.solo 3 (.solo 6 (.solo 7 (.solo 8 .done))))) 3 (.solo 1 (.solo 5 (.solo 6 (.solo 7 (.solo 8 .done)))))) 3 (.solo 0 (.solo 1 (.solo 5 (.solo 6 (.solo 7 (.solo 8 .done))))))))) (by decide +kernel) ?_; conv => whnf)
    | (refine And.intro ?_ ?_ <;> conv => whnf)
    | (refine CallOK.useR (c_Concat rowx_ (ys := [m]) (sy := []) (n2 := 1) (c2 := 1) (Row.lit rfl rfl) rowy_ hnx_ (by omega) hny_) [_, _, _, _] rfl rfl rfl ⟨⟨⟨_, rfl, .lit rfl (fun _ h_ => by cases h_) (fun v hv => okB0_spec (allL_spec rfl v hv))⟩⟩, ⟨⟨_, rfl, .plain rfl (fun _ h_ => by cases h_) (Row.all rowx_)⟩⟩, ⟨⟨_, rfl, .plain rfl (fun _ h_ => by cases h_) (Plain.of rfl)⟩⟩, ⟨⟨_, rfl, .plain rfl (fun _ h_ => by cases h_) (Row.all rowy_)⟩⟩, trivial⟩ (fun v_ mem_ hR => ?_); obtain ⟨n_, c_, sp_, hrow_, rfl, rfl⟩ := hR; replace hrow_ : Row (il (sumL (longL (expL (sineF a b c d) (cosF a b c d))) (longL (expL (sineF e f g i) (cosF e f g i))) m)) sp_ n_ c_ 1 := hrow_; refine ⟨rfl, ?_⟩; conv => whnf)
    | (refine draw_pt (.join [0, 1, 2, 3] (.duo 0 (.duo 1 (.solo 2 (.solo 3 .done)) 2 (.solo 1 (.solo 3 .done))) 2 (.solo 0 (.solo 1 (.solo 3 .done)))) (.solo 4 (.solo 5 (.solo 6 .done)))) (by decide +kernel) ?_; conv => whnf)
    | (refine br_false (b := decide ((n_ : Int) > 60)) (decide_eq_false (by have := row_il hrow_; omega)) ?_; conv => whnf)
    | (refine CallR.call1 (c_ofList_zero hrow_ (by have := row_il hrow_; omega) hg hp) rfl (plain_all (Row.all hrow_)) ⟨_, rfl⟩ ?_; conv => whnf)
    | exact out_forget [] ⟨rfl, rfl⟩ rfl (okB2_spec rfl) trivial rfl rfl
    | (refine StoreK.mk rfl ?_; conv => whnf)
    | exact join_same
    | exact (by assumption : (_ : Bool) = (_ : Bool))
    | (refine br_true (by assumption) ?_; conv => whnf)
    | (refine br_false (by assumption) ?_; conv => whnf)
    | (refine br_not ?_; conv => whnf)
    | (refine br_code ?_; conv => whnf)
    | (with_reducible refine br_and ?_; conv => whnf)
    | (with_reducible refine br_or ?_; conv => whnf)
    | (refine br_eq2 ?_; conv => whnf)
    | (refine c_impl_isCoord.call ?_; conv => whnf)
    | (refine c_impl_isCoord.quiet ?_; conv => whnf)
    | (refine c_impl_tangent.call ?_; conv => whnf)
    | (refine c_impl_tangent.quiet ?_; conv => whnf)
    | (refine c_impl_Corner_sine.call ?_; conv => whnf)
    | (refine c_impl_Corner_sine.quiet ?_; conv => whnf)
    | (refine (c_impl_Corner_cosine ?_).call ?_ <;> conv => whnf)
    | (refine (c_impl_Corner_cosine ?_).quiet ?_ <;> conv => whnf)
    | (refine draw_auto (by decide +kernel) ?_; conv => whnf)
    | (refine draw_asg (by decide +kernel) ?_; conv => whnf)
    | (refine draw_st (by decide +kernel) ?_; conv => whnf)
    | (refine draw_call (by decide +kernel) ?_; conv => whnf)
    | (refine enter_same (loop_n 12 ?_); conv => whnf)
    | (refine next_same ?_; conv => whnf)
    | (refine mapK_row (by assumption) ?_; conv => whnf)
    | (refine mapK_plain (Plain.of rfl) ?_; conv => whnf)
    | (refine mapK_lit ?_; conv => whnf)
    | (refine br_split (fun _ => ?_) (fun _ => ?_) <;> conv => whnf)
    | exact (rfl : (_ : Value) = _)
    | (simp only [*]; exact (rfl : (_ : Value) = _))
    | (simp [*]; done))

set_option maxHeartbeats 4000000 in
theorem c_impl_SumOfCorners_ok {a b c d e f g i m : Int} {p q : Int} (h : isCornF a b c d = true) (k : isCornF e f g i = true) (hm : isCoordF m = true) (h2 : bigF a b c d = false) (k2 : bigF e f g i = false) (hl : (sumL (longL (expL (sineF a b c d) (cosF a b c d))) (longL (expL (sineF e f g i) (cosF e f g i))) m).length ≤ 60) (hg : ofGo (sumL (longL (expL (sineF a b c d) (cosF a b c d))) (longL (expL (sineF e f g i) (cosF e f g i))) m).reverse 1 0 = some (p, q)) (hp : ¬ p = 0) : CallOK Try.prog n_impl_SumOfCorners [q4 a b c d, q4 e f g i, ii m] [] (fun v m_ => v = t2 (q4 1 0 (cosF 1 0 q p) (sineF 1 0 q p)) (ii 0) ∧ m_ = []) := by
  have hc_ := sum_corn h h2 k k2 hm hg hp; refine callOK_ofF good fn_impl_SumOfCorners ?_
  conv => whnf
  all_goals (repeat' first
    | (refine CallR.call1 (impl_lim_ok h k h2 k2) rfl rfl ⟨_, rfl⟩ ?_; conv => whnf)
    | (refine CallOK.useR (c_expansion h h2) [] rfl rfl rfl trivial (fun v_ mem_ hR => ?_); obtain ⟨nx_, cx_, spx_, rowx_, hnx_, rfl, rfl⟩ := hR; refine ⟨rfl, ?_⟩; conv => whnf)
    | (refine CallOK.useR (c_expansion k k2) [] rfl rfl rfl trivial (fun v_ mem_ hR => ?_); obtain ⟨ny_, cy_, spy_, rowy_, hny_, rfl, rfl⟩ := hR; refine ⟨rfl, ?_⟩; conv => whnf)
    | (refine draw_pt (.take 2 (.trio 0 (.trio 1 (.duo 3 (.solo 4 (.solo 5 (.solo 6 (.solo 7 (.solo 8 .done))))) 4 (.duo 3 (.solo 5 (.solo 6 (.solo 7 (.solo 8 .done)))) 5 (.solo 3 (.solo 6 (.solo 7 (.solo 8 .done)))))) 3 (.duo 1 (.solo 4 (.solo 5 (.solo 6 (.solo 7 (.solo 8 .done))))) 4 (.solo 1 (.solo 5 (.solo 6 (.solo 7 (.solo 8 .done)))))) 4 (.duo 1 (.duo 3 (.solo 5 (.solo 6 (.solo 7 (.solo 8 .done)))) 5 (.solo 3 (.solo 6 (.solo 7 (.solo 8 .done))))) 3 (.solo 1 (.solo 5 (.solo 6 (.solo 7 (.solo 8 .done))))))) 3 (.duo 0 (.duo 1 (.solo 4 (.solo 5 (.solo 6 (.solo 7 (.solo 8 .done))))) 4 (.solo 1 (.solo 5 (.solo 6 (.solo 7 (.solo 8 .done)))))) 4 (.solo 0 (.solo 1 (.solo 5 (.solo 6 (.solo 7 (.solo 8 .done))))))) 4 (.duo 0 (.duo 1 (.duo 3 (.solo 5 (.solo 6 (.solo 7 (.solo 8 .done)))) 5 (.solo 3 (.solo 6 (.solo 7 (.solo 8 .done))))) 3 (.solo 1 (.solo 5 (.solo 6 (.solo 7 (.solo 8 .done)))))) 3 (.solo 0 (.solo 1 (.solo 5 (.solo 6 (.solo 7 (.solo 8 .done))))))))) (by decide +kernel) ?_; conv => whnf)
    | (refine And.intro ?_ ?_ <;> conv => whnf)
    | (refine CallOK.useR (c_Concat rowx_ (ys := [m]) (sy := []) (n2 := 1) (c2 := 1) (Row.lit rfl rfl) rowy_ hnx_ (by omega) hny_) [_, _, _, _] rfl rfl rfl ⟨⟨⟨_, rfl, .lit rfl (fun _ h_ => by cases h_) (fun v hv => okB0_spec (allL_spec rfl v hv))⟩⟩, ⟨⟨_, rfl, .plain rfl (fun _ h_ => by cases h_) (Row.all rowx_)⟩⟩, ⟨⟨_, rfl, .plain rfl (fun _ h_ => by cases h_) (Plain.of rfl)⟩⟩, ⟨⟨_, rfl, .plain rfl (fun _ h_ => by cases h_) (Row.all rowy_)⟩⟩, trivial⟩ (fun v_ mem_ hR => ?_); obtain ⟨n_, c_, sp_, hrow_, rfl, rfl⟩ := hR; replace hrow_ : Row (il (sumL (longL (expL (sineF a b c d) (cosF a b c d))) (longL (expL (sineF e f g i) (cosF e f g i))) m)) sp_ n_ c_ 1 := hrow_; refine ⟨rfl, ?_⟩; conv => whnf)
    | (refine draw_pt (.join [0, 1, 2, 3] (.duo 0 (.duo 1 (.solo 2 (.solo 3 .done)) 2 (.solo 1 (.solo 3 .done))) 2 (.solo 0 (.solo 1 (.solo 3 .done)))) (.solo 4 (.solo 5 (.solo 6 .done)))) (by decide +kernel) ?_; conv => whnf)
    | (refine br_false (b := decide ((n_ : Int) > 60)) (decide_eq_false (by have := row_il hrow_; omega)) ?_; conv => whnf)
    | (refine CallR.call1 (c_ofList_ok hrow_ (by have := row_il hrow_; omega) hg hp) rfl (plain_all (Row.all hrow_)) ⟨_, rfl⟩ ?_; conv => whnf)
    | exact out_forget [] ⟨rfl, rfl⟩ rfl (okB2_spec rfl) trivial rfl rfl
    | (refine StoreK.mk rfl ?_; conv => whnf)
    | exact join_same
    | exact (by assumption : (_ : Bool) = (_ : Bool))
    | (refine br_true (by assumption) ?_; conv => whnf)
    | (refine br_false (by assumption) ?_; conv => whnf)
    | (refine br_not ?_; conv => whnf)
    | (refine br_code ?_; conv => whnf)
    | (with_reducible refine br_and ?_; conv => whnf)
    | (with_reducible refine br_or ?_; conv => whnf)
    | (refine br_eq2 ?_; conv => whnf)
    | (refine c_impl_isCoord.call ?_; conv => whnf)
    | (refine c_impl_isCoord.quiet ?_; conv => whnf)
    | (refine c_impl_tangent.call ?_; conv => whnf)
    | (refine c_impl_tangent.quiet ?_; conv => whnf)
    | (refine c_impl_Corner_sine.call ?_; conv => whnf)
    | (refine c_impl_Corner_sine.quiet ?_; conv => whnf)
    | (refine (c_impl_Corner_cosine ?_).call ?_ <;> conv => whnf)
    | (refine (c_impl_Corner_cosine ?_).quiet ?_ <;> conv => whnf)
    | (refine draw_auto (by decide +kernel) ?_; conv => whnf)
    | (refine draw_asg (by decide +kernel) ?_; conv => whnf)
    | (refine draw_st (by decide +kernel) ?_; conv => whnf)
    | (refine draw_call (by decide +kernel) ?_; conv => whnf)
    | (refine enter_same (loop_n 12 ?_); conv => whnf)
    | (refine next_same ?_; conv => whnf)
    | (refine mapK_row (by assumption) ?_; conv => whnf)
    | (refine mapK_plain (Plain.of rfl) ?_; conv => whnf)
    | (refine mapK_lit ?_; conv => whnf)
    | (refine br_split (fun _ => ?_) (fun _ => ?_) <;> conv => whnf)
    | exact (rfl : (_ : Value) = _)
    | (simp only [*]; exact (rfl : (_ : Value) = _))
    | (simp [*]; done))

end Go.Proofs.Ytlkbfpklhncfbaa
