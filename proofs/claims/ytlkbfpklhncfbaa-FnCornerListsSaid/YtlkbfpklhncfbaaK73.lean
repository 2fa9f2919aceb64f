/-
  Contracts of functions of the program (printed by a program of this work; Lean checks each).
  Conditions: as each contract states.
-/
import Derived.Test.YtlkbfpklhncfbaaK72
namespace Go.Proofs.Ytlkbfpklhncfbaa
open Go.Ev Go.RowKit
set_option maxRecDepth 100000
set_option linter.unusedVariables false
set_option linter.unusedSimpArgs false

theorem draw_abs {P : Program} {T : Tbl} {ops : List Oper} {tm : List Value} {mem : Mem} {K : List Value → Mem → Prop} (p : PT) (h : (decide (Region.ready .any ops.toArray (Array.replicate ops.toArray.size true) = []) && ptChk ops.toArray p (Array.replicate ops.toArray.size false) (Array.replicate ops.toArray.size true) ops.toArray.size) = true)
    (H : (List Value → Mem → Prop) → Prop) (hd : ∀ K', H K' → ptK P T ops p tm mem K') (hk : H K) : DrawK P T ops tm mem K := draw_pt p h (hd K hk)

attribute [local irreducible] isCornF bigF detF ofGo isCoordF longL

theorem sum_len {xs ys : List Int} {n : Int} : (sumL xs ys n).length = xs.length + 1 + ys.length := by unfold sumL; simp; omega

theorem impl_lim_bad {a b c d e f g i : Int} (hk : (isCornF a b c d && isCornF e f g i) = false) : CallR Try.prog n_impl_limited [.slice (some ⟨0, 0, none⟩) 2 2] [[ii a, ii b, ii c, ii d, ii e, ii f, ii g, ii i]] (ii 1) := by
  have := c_limited_2 (a := a) (b := b) (c := c) (d := d) (e := e) (f := f) (g := g) (i := i)
  rw [hk] at this
  exact this

theorem impl_lim_huge {a b c d e f g i : Int} (h : isCornF a b c d = true) (k : isCornF e f g i = true) (hb : (bigF a b c d || bigF e f g i) = true) : CallR Try.prog n_impl_limited [.slice (some ⟨0, 0, none⟩) 2 2] [[ii a, ii b, ii c, ii d, ii e, ii f, ii g, ii i]] (ii 3) := by
  have := c_limited_2 (a := a) (b := b) (c := c) (d := d) (e := e) (f := f) (g := g) (i := i)
  rw [h, k, hb] at this
  exact this

theorem impl_lim_ok {a b c d e f g i : Int} (h : isCornF a b c d = true) (k : isCornF e f g i = true) (h2 : bigF a b c d = false) (k2 : bigF e f g i = false) : CallR Try.prog n_impl_limited [.slice (some ⟨0, 0, none⟩) 2 2] [[ii a, ii b, ii c, ii d, ii e, ii f, ii g, ii i]] (ii 0) := by
  have := c_limited_2 (a := a) (b := b) (c := c) (d := d) (e := e) (f := f) (g := g) (i := i)
  rw [h, k, h2, k2] at this
  exact this

theorem spec_lim_bad {a b c d e f g i : Int} (hk : (isCornF a b c d && isCornF e f g i) = false) : CallR Try.prog n_spec_l02Code [.slice (some ⟨0, 0, none⟩) 2 2] [[ii a, ii b, ii c, ii d, ii e, ii f, ii g, ii i]] (ii 1) := by
  have := c_l02Code_2 (a := a) (b := b) (c := c) (d := d) (e := e) (f := f) (g := g) (i := i)
  rw [hk] at this
  exact this

theorem spec_lim_huge {a b c d e f g i : Int} (h : isCornF a b c d = true) (k : isCornF e f g i = true) (hb : (bigF a b c d || bigF e f g i) = true) : CallR Try.prog n_spec_l02Code [.slice (some ⟨0, 0, none⟩) 2 2] [[ii a, ii b, ii c, ii d, ii e, ii f, ii g, ii i]] (ii 3) := by
  have := c_l02Code_2 (a := a) (b := b) (c := c) (d := d) (e := e) (f := f) (g := g) (i := i)
  rw [h, k, hb] at this
  exact this

theorem spec_lim_ok {a b c d e f g i : Int} (h : isCornF a b c d = true) (k : isCornF e f g i = true) (h2 : bigF a b c d = false) (k2 : bigF e f g i = false) : CallR Try.prog n_spec_l02Code [.slice (some ⟨0, 0, none⟩) 2 2] [[ii a, ii b, ii c, ii d, ii e, ii f, ii g, ii i]] (ii 0) := by
  have := c_l02Code_2 (a := a) (b := b) (c := c) (d := d) (e := e) (f := f) (g := g) (i := i)
  rw [h, k, h2, k2] at this
  exact this

theorem c_impl_SumOfCorners_bad {a b c d e f g i m : Int}  (hk : (isCornF a b c d && isCornF e f g i) = false) : CallOK Try.prog n_impl_SumOfCorners [q4 a b c d, q4 e f g i, ii m] [] (fun v m_ => v = t2 (q4 0 0 0 0) (ii 1) ∧ m_ = []) := by
  refine callOK_ofF good fn_impl_SumOfCorners ?_
  conv => whnf
  all_goals (repeat' first
    | (refine CallR.call1 (impl_lim_bad hk) rfl rfl ⟨_, rfl⟩ ?_; conv => whnf)
    | exact out_forget [] ⟨rfl, rfl⟩ rfl (okB2_spec rfl) trivial rfl rfl
    | (refine StoreK.mk rfl ?_; conv => whnf)
    | exact join_same
    | exact (by assumption : (_ : Bool) = (_ : Bool))
    | (refine br_true (by assumption) ?_; conv => whnf)
    | (refine br_false (by assumption) ?_; conv => whnf)
    | (refine br_not ?_; conv => whnf)
    | (refine br_code ?_; conv => whnf)
    | (with_reducible refine br_and ?_; conv => whnf)
    | (with_reducible refine br_or ?_; conv => whnf)
    | (refine br_eq2 ?_; conv => whnf)
    | (refine c_impl_isCoord.call ?_; conv => whnf)
    | (refine c_impl_isCoord.quiet ?_; conv => whnf)
    | (refine c_impl_tangent.call ?_; conv => whnf)
    | (refine c_impl_tangent.quiet ?_; conv => whnf)
    | (refine c_impl_Corner_sine.call ?_; conv => whnf)
    | (refine c_impl_Corner_sine.quiet ?_; conv => whnf)
    | (refine (c_impl_Corner_cosine ?_).call ?_ <;> conv => whnf)
    | (refine (c_impl_Corner_cosine ?_).quiet ?_ <;> conv => whnf)
    | (refine CallOK.useR (c_expansion (by first | assumption | exact Row.lit rfl rfl | omega) (by first | assumption | exact Row.lit rfl rfl | omega)) [] rfl rfl rfl trivial (fun v_ mem_ hR => ?_); obtain ⟨n_, c_, sp_, hrow_, hn_, rfl, rfl⟩ := hR; refine ⟨rfl, ?_⟩; conv => whnf)
    | (refine draw_auto (by decide +kernel) ?_; conv => whnf)
    | (refine draw_asg (by decide +kernel) ?_; conv => whnf)
    | (refine draw_st (by decide +kernel) ?_; conv => whnf)
    | (refine draw_call (by decide +kernel) ?_; conv => whnf)
    | (refine enter_same (loop_n 12 ?_); conv => whnf)
    | (refine next_same ?_; conv => whnf)
    | (refine mapK_row (by assumption) ?_; conv => whnf)
    | (refine mapK_plain (Plain.of rfl) ?_; conv => whnf)
    | (refine mapK_lit ?_; conv => whnf)
    | (refine br_split (fun _ => ?_) (fun _ => ?_) <;> conv => whnf)
    | exact (rfl : (_ : Value) = _)
    | (simp only [*]; exact (rfl : (_ : Value) = _))
    | (simp [*]; done))

theorem c_impl_SumOfCorners_rng {a b c d e f g i m : Int}  (h : isCornF a b c d = true) (k : isCornF e f g i = true) (h2 : bigF a b c d = false) (k2 : bigF e f g i = false) (hm : isCoordF m = false) : CallOK Try.prog n_impl_SumOfCorners [q4 a b c d, q4 e f g i, ii m] [] (fun v m_ => v = t2 (q4 0 0 0 0) (ii 2) ∧ m_ = []) := by
  refine callOK_ofF good fn_impl_SumOfCorners ?_
  conv => whnf
  all_goals (repeat' first
    | (refine CallR.call1 (impl_lim_ok h k h2 k2) rfl rfl ⟨_, rfl⟩ ?_; conv => whnf)
    | exact out_forget [] ⟨rfl, rfl⟩ rfl (okB2_spec rfl) trivial rfl rfl
    | (refine StoreK.mk rfl ?_; conv => whnf)
    | exact join_same
    | exact (by assumption : (_ : Bool) = (_ : Bool))
    | (refine br_true (by assumption) ?_; conv => whnf)
    | (refine br_false (by assumption) ?_; conv => whnf)
    | (refine br_not ?_; conv => whnf)
    | (refine br_code ?_; conv => whnf)
    | (with_reducible refine br_and ?_; conv => whnf)
    | (with_reducible refine br_or ?_; conv => whnf)
    | (refine br_eq2 ?_; conv => whnf)
    | (refine c_impl_isCoord.call ?_; conv => whnf)
    | (refine c_impl_isCoord.quiet ?_; conv => whnf)
    | (refine c_impl_tangent.call ?_; conv => whnf)
    | (refine c_impl_tangent.quiet ?_; conv => whnf)
    | (refine c_impl_Corner_sine.call ?_; conv => whnf)
    | (refine c_impl_Corner_sine.quiet ?_; conv => whnf)
    | (refine (c_impl_Corner_cosine ?_).call ?_ <;> conv => whnf)
    | (refine (c_impl_Corner_cosine ?_).quiet ?_ <;> conv => whnf)
    | (refine CallOK.useR (c_expansion (by first | assumption | exact Row.lit rfl rfl | omega) (by first | assumption | exact Row.lit rfl rfl | omega)) [] rfl rfl rfl trivial (fun v_ mem_ hR => ?_); obtain ⟨n_, c_, sp_, hrow_, hn_, rfl, rfl⟩ := hR; refine ⟨rfl, ?_⟩; conv => whnf)
    | (refine draw_auto (by decide +kernel) ?_; conv => whnf)
    | (refine draw_asg (by decide +kernel) ?_; conv => whnf)
    | (refine draw_st (by decide +kernel) ?_; conv => whnf)
    | (refine draw_call (by decide +kernel) ?_; conv => whnf)
    | (refine enter_same (loop_n 12 ?_); conv => whnf)
    | (refine next_same ?_; conv => whnf)
    | (refine mapK_row (by assumption) ?_; conv => whnf)
    | (refine mapK_plain (Plain.of rfl) ?_; conv => whnf)
    | (refine mapK_lit ?_; conv => whnf)
    | (refine br_split (fun _ => ?_) (fun _ => ?_) <;> conv => whnf)
    | exact (rfl : (_ : Value) = _)
    | (simp only [*]; exact (rfl : (_ : Value) = _))
    | (simp [*]; done))

theorem c_impl_SumOfCorners_rnh {a b c d e f g i m : Int}  (h : isCornF a b c d = true) (k : isCornF e f g i = true) (hb : (bigF a b c d || bigF e f g i) = true) (hm : isCoordF m = false) : CallOK Try.prog n_impl_SumOfCorners [q4 a b c d, q4 e f g i, ii m] [] (fun v m_ => v = t2 (q4 0 0 0 0) (ii 2) ∧ m_ = []) := by
  refine callOK_ofF good fn_impl_SumOfCorners ?_
  conv => whnf
  all_goals (repeat' first
    | (refine CallR.call1 (impl_lim_huge h k hb) rfl rfl ⟨_, rfl⟩ ?_; conv => whnf)
    | exact out_forget [] ⟨rfl, rfl⟩ rfl (okB2_spec rfl) trivial rfl rfl
    | (refine StoreK.mk rfl ?_; conv => whnf)
    | exact join_same
    | exact (by assumption : (_ : Bool) = (_ : Bool))
    | (refine br_true (by assumption) ?_; conv => whnf)
    | (refine br_false (by assumption) ?_; conv => whnf)
    | (refine br_not ?_; conv => whnf)
    | (refine br_code ?_; conv => whnf)
    | (with_reducible refine br_and ?_; conv => whnf)
    | (with_reducible refine br_or ?_; conv => whnf)
    | (refine br_eq2 ?_; conv => whnf)
    | (refine c_impl_isCoord.call ?_; conv => whnf)
    | (refine c_impl_isCoord.quiet ?_; conv => whnf)
    | (refine c_impl_tangent.call ?_; conv => whnf)
    | (refine c_impl_tangent.quiet ?_; conv => whnf)
    | (refine c_impl_Corner_sine.call ?_; conv => whnf)
    | (refine c_impl_Corner_sine.quiet ?_; conv => whnf)
    | (refine (c_impl_Corner_cosine ?_).call ?_ <;> conv => whnf)
    | (refine (c_impl_Corner_cosine ?_).quiet ?_ <;> conv => whnf)
    | (refine CallOK.useR (c_expansion (by first | assumption | exact Row.lit rfl rfl | omega) (by first | assumption | exact Row.lit rfl rfl | omega)) [] rfl rfl rfl trivial (fun v_ mem_ hR => ?_); obtain ⟨n_, c_, sp_, hrow_, hn_, rfl, rfl⟩ := hR; refine ⟨rfl, ?_⟩; conv => whnf)
    | (refine draw_auto (by decide +kernel) ?_; conv => whnf)
    | (refine draw_asg (by decide +kernel) ?_; conv => whnf)
    | (refine draw_st (by decide +kernel) ?_; conv => whnf)
    | (refine draw_call (by decide +kernel) ?_; conv => whnf)
    | (refine enter_same (loop_n 12 ?_); conv => whnf)
    | (refine next_same ?_; conv => whnf)
    | (refine mapK_row (by assumption) ?_; conv => whnf)
    | (refine mapK_plain (Plain.of rfl) ?_; conv => whnf)
    | (refine mapK_lit ?_; conv => whnf)
    | (refine br_split (fun _ => ?_) (fun _ => ?_) <;> conv => whnf)
    | exact (rfl : (_ : Value) = _)
    | (simp only [*]; exact (rfl : (_ : Value) = _))
    | (simp [*]; done))

theorem c_impl_SumOfCorners_huge {a b c d e f g i m : Int}  (h : isCornF a b c d = true) (k : isCornF e f g i = true) (hm : isCoordF m = true) (hb : (bigF a b c d || bigF e f g i) = true) : CallOK Try.prog n_impl_SumOfCorners [q4 a b c d, q4 e f g i, ii m] [] (fun v m_ => v = t2 (q4 0 0 0 0) (ii 3) ∧ m_ = []) := by
  refine callOK_ofF good fn_impl_SumOfCorners ?_
  conv => whnf
  all_goals (repeat' first
    | (refine CallR.call1 (impl_lim_huge h k hb) rfl rfl ⟨_, rfl⟩ ?_; conv => whnf)
    | exact out_forget [] ⟨rfl, rfl⟩ rfl (okB2_spec rfl) trivial rfl rfl
    | (refine StoreK.mk rfl ?_; conv => whnf)
    | exact join_same
    | exact (by assumption : (_ : Bool) = (_ : Bool))
    | (refine br_true (by assumption) ?_; conv => whnf)
    | (refine br_false (by assumption) ?_; conv => whnf)
    | (refine br_not ?_; conv => whnf)
    | (refine br_code ?_; conv => whnf)
    | (with_reducible refine br_and ?_; conv => whnf)
    | (with_reducible refine br_or ?_; conv => whnf)
    | (refine br_eq2 ?_; conv => whnf)
    | (refine c_impl_isCoord.call ?_; conv => whnf)
    | (refine c_impl_isCoord.quiet ?_; conv => whnf)
    | (refine c_impl_tangent.call ?_; conv => whnf)
    | (refine c_impl_tangent.quiet ?_; conv => whnf)
    | (refine c_impl_Corner_sine.call ?_; conv => whnf)
    | (refine c_impl_Corner_sine.quiet ?_; conv => whnf)
    | (refine (c_impl_Corner_cosine ?_).call ?_ <;> conv => whnf)
    | (refine (c_impl_Corner_cosine ?_).quiet ?_ <;> conv => whnf)
    | (refine CallOK.useR (c_expansion (by first | assumption | exact Row.lit rfl rfl | omega) (by first | assumption | exact Row.lit rfl rfl | omega)) [] rfl rfl rfl trivial (fun v_ mem_ hR => ?_); obtain ⟨n_, c_, sp_, hrow_, hn_, rfl, rfl⟩ := hR; refine ⟨rfl, ?_⟩; conv => whnf)
    | (refine draw_auto (by decide +kernel) ?_; conv => whnf)
    | (refine draw_asg (by decide +kernel) ?_; conv => whnf)
    | (refine draw_st (by decide +kernel) ?_; conv => whnf)
    | (refine draw_call (by decide +kernel) ?_; conv => whnf)
    | (refine enter_same (loop_n 12 ?_); conv => whnf)
    | (refine next_same ?_; conv => whnf)
    | (refine mapK_row (by assumption) ?_; conv => whnf)
    | (refine mapK_plain (Plain.of rfl) ?_; conv => whnf)
    | (refine mapK_lit ?_; conv => whnf)
    | (refine br_split (fun _ => ?_) (fun _ => ?_) <;> conv => whnf)
    | exact (rfl : (_ : Value) = _)
    | (simp only [*]; exact (rfl : (_ : Value) = _))
    | (simp [*]; done))

theorem c_spec_SumOfCorners_bad {a b c d e f g i m : Int}  (hk : (isCornF a b c d && isCornF e f g i) = false) : CallOK Try.prog n_spec_SumOfCorners [q4 a b c d, q4 e f g i, ii m] [] (fun v m_ => v = t2 (q4 0 0 0 0) (ii 1) ∧ m_ = []) := by
  refine callOK_ofF good fn_spec_SumOfCorners ?_
  conv => whnf
  all_goals (repeat' first
    | (refine CallR.call1 (spec_lim_bad hk) rfl rfl ⟨_, rfl⟩ ?_; conv => whnf)
    | exact out_forget [] ⟨rfl, rfl⟩ rfl (okB2_spec rfl) trivial rfl rfl
    | (refine StoreK.mk rfl ?_; conv => whnf)
    | exact join_same
    | exact (by assumption : (_ : Bool) = (_ : Bool))
    | (refine br_true (by assumption) ?_; conv => whnf)
    | (refine br_false (by assumption) ?_; conv => whnf)
    | (refine br_not ?_; conv => whnf)
    | (refine br_code ?_; conv => whnf)
    | (with_reducible refine br_and ?_; conv => whnf)
    | (with_reducible refine br_or ?_; conv => whnf)
    | (refine br_eq2 ?_; conv => whnf)
    | (refine c_spec_l01Fits.call ?_; conv => whnf)
    | (refine c_spec_l01Fits.quiet ?_; conv => whnf)
    | (refine c_spec_l02Sine.call ?_; conv => whnf)
    | (refine c_spec_l02Sine.quiet ?_; conv => whnf)
    | (refine (c_spec_l02Cosine ?_).call ?_ <;> conv => whnf)
    | (refine (c_spec_l02Cosine ?_).quiet ?_ <;> conv => whnf)
    | (refine CallOK.useR (c_spec_l02Long (by first | assumption | exact Row.lit rfl rfl | omega) (by first | assumption | exact Row.lit rfl rfl | omega)) [] rfl rfl rfl trivial (fun v_ mem_ hR => ?_); obtain ⟨n_, c_, sp_, hrow_, hn_, rfl, rfl⟩ := hR; refine ⟨rfl, ?_⟩; conv => whnf)
    | (refine c_spec_l02Normal.call ?_; conv => whnf)
    | (refine c_spec_l02Normal.quiet ?_; conv => whnf)
    | (refine draw_auto (by decide +kernel) ?_; conv => whnf)
    | (refine draw_asg (by decide +kernel) ?_; conv => whnf)
    | (refine draw_st (by decide +kernel) ?_; conv => whnf)
    | (refine draw_call (by decide +kernel) ?_; conv => whnf)
    | (refine enter_same (loop_n 12 ?_); conv => whnf)
    | (refine next_same ?_; conv => whnf)
    | (refine mapK_row (by assumption) ?_; conv => whnf)
    | (refine mapK_plain (Plain.of rfl) ?_; conv => whnf)
    | (refine mapK_lit ?_; conv => whnf)
    | (refine br_split (fun _ => ?_) (fun _ => ?_) <;> conv => whnf)
    | exact (rfl : (_ : Value) = _)
    | (simp only [*]; exact (rfl : (_ : Value) = _))
    | (simp [*]; done))

theorem c_spec_SumOfCorners_rng {a b c d e f g i m : Int}  (h : isCornF a b c d = true) (k : isCornF e f g i = true) (h2 : bigF a b c d = false) (k2 : bigF e f g i = false) (hm : isCoordF m = false) : CallOK Try.prog n_spec_SumOfCorners [q4 a b c d, q4 e f g i, ii m] [] (fun v m_ => v = t2 (q4 0 0 0 0) (ii 2) ∧ m_ = []) := by
  refine callOK_ofF good fn_spec_SumOfCorners ?_
  conv => whnf
  all_goals (repeat' first
    | (refine CallR.call1 (spec_lim_ok h k h2 k2) rfl rfl ⟨_, rfl⟩ ?_; conv => whnf)
    | exact out_forget [] ⟨rfl, rfl⟩ rfl (okB2_spec rfl) trivial rfl rfl
    | (refine StoreK.mk rfl ?_; conv => whnf)
    | exact join_same
    | exact (by assumption : (_ : Bool) = (_ : Bool))
    | (refine br_true (by assumption) ?_; conv => whnf)
    | (refine br_false (by assumption) ?_; conv => whnf)
    | (refine br_not ?_; conv => whnf)
    | (refine br_code ?_; conv => whnf)
    | (with_reducible refine br_and ?_; conv => whnf)
    | (with_reducible refine br_or ?_; conv => whnf)
    | (refine br_eq2 ?_; conv => whnf)
    | (refine c_spec_l01Fits.call ?_; conv => whnf)
    | (refine c_spec_l01Fits.quiet ?_; conv => whnf)
    | (refine c_spec_l02Sine.call ?_; conv => whnf)
    | (refine c_spec_l02Sine.quiet ?_; conv => whnf)
    | (refine (c_spec_l02Cosine ?_).call ?_ <;> conv => whnf)
    | (refine (c_spec_l02Cosine ?_).quiet ?_ <;> conv => whnf)
    | (refine CallOK.useR (c_spec_l02Long (by first | assumption | exact Row.lit rfl rfl | omega) (by first | assumption | exact Row.lit rfl rfl | omega)) [] rfl rfl rfl trivial (fun v_ mem_ hR => ?_); obtain ⟨n_, c_, sp_, hrow_, hn_, rfl, rfl⟩ := hR; refine ⟨rfl, ?_⟩; conv => whnf)
    | (refine c_spec_l02Normal.call ?_; conv => whnf)
    | (refine c_spec_l02Normal.quiet ?_; conv => whnf)
    | (refine draw_auto (by decide +kernel) ?_; conv => whnf)
    | (refine draw_asg (by decide +kernel) ?_; conv => whnf)
    | (refine draw_st (by decide +kernel) ?_; conv => whnf)
    | (refine draw_call (by decide +kernel) ?_; conv => whnf)
    | (refine enter_same (loop_n 12 ?_); conv => whnf)
    | (refine next_same ?_; conv => whnf)
    | (refine mapK_row (by assumption) ?_; conv => whnf)
    | (refine mapK_plain (Plain.of rfl) ?_; conv => whnf)
    | (refine mapK_lit ?_; conv => whnf)
    | (refine br_split (fun _ => ?_) (fun _ => ?_) <;> conv => whnf)
    | exact (rfl : (_ : Value) = _)
    | (simp only [*]; exact (rfl : (_ : Value) = _))
    | (simp [*]; done))

theorem c_spec_SumOfCorners_rnh {a b c d e f g i m : Int}  (h : isCornF a b c d = true) (k : isCornF e f g i = true) (hb : (bigF a b c d || bigF e f g i) = true) (hm : isCoordF m = false) : CallOK Try.prog n_spec_SumOfCorners [q4 a b c d, q4 e f g i, ii m] [] (fun v m_ => v = t2 (q4 0 0 0 0) (ii 2) ∧ m_ = []) := by
  refine callOK_ofF good fn_spec_SumOfCorners ?_
  conv => whnf
  all_goals (repeat' first
    | (refine CallR.call1 (spec_lim_huge h k hb) rfl rfl ⟨_, rfl⟩ ?_; conv => whnf)
    | exact out_forget [] ⟨rfl, rfl⟩ rfl (okB2_spec rfl) trivial rfl rfl
    | (refine StoreK.mk rfl ?_; conv => whnf)
    | exact join_same
    | exact (by assumption : (_ : Bool) = (_ : Bool))
    | (refine br_true (by assumption) ?_; conv => whnf)
    | (refine br_false (by assumption) ?_; conv => whnf)
    | (refine br_not ?_; conv => whnf)
    | (refine br_code ?_; conv => whnf)
    | (with_reducible refine br_and ?_; conv => whnf)
    | (with_reducible refine br_or ?_; conv => whnf)
    | (refine br_eq2 ?_; conv => whnf)
    | (refine c_spec_l01Fits.call ?_; conv => whnf)
    | (refine c_spec_l01Fits.quiet ?_; conv => whnf)
    | (refine c_spec_l02Sine.call ?_; conv => whnf)
    | (refine c_spec_l02Sine.quiet ?_; conv => whnf)
    | (refine (c_spec_l02Cosine ?_).call ?_ <;> conv => whnf)
    | (refine (c_spec_l02Cosine ?_).quiet ?_ <;> conv => whnf)
    | (refine CallOK.useR (c_spec_l02Long (by first | assumption | exact Row.lit rfl rfl | omega) (by first | assumption | exact Row.lit rfl rfl | omega)) [] rfl rfl rfl trivial (fun v_ mem_ hR => ?_); obtain ⟨n_, c_, sp_, hrow_, hn_, rfl, rfl⟩ := hR; refine ⟨rfl, ?_⟩; conv => whnf)
    | (refine c_spec_l02Normal.call ?_; conv => whnf)
    | (refine c_spec_l02Normal.quiet ?_; conv => whnf)
    | (refine draw_auto (by decide +kernel) ?_; conv => whnf)
    | (refine draw_asg (by decide +kernel) ?_; conv => whnf)
    | (refine draw_st (by decide +kernel) ?_; conv => whnf)
    | (refine draw_call (by decide +kernel) ?_; conv => whnf)
    | (refine enter_same (loop_n 12 ?_); conv => whnf)
    | (refine next_same ?_; conv => whnf)
    | (refine mapK_row (by assumption) ?_; conv => whnf)
    | (refine mapK_plain (Plain.of rfl) ?_; conv => whnf)
    | (refine mapK_lit ?_; conv => whnf)
    | (refine br_split (fun _ => ?_) (fun _ => ?_) <;> conv => whnf)
    | exact (rfl : (_ : Value) = _)
    | (simp only [*]; exact (rfl : (_ : Value) = _))
    | (simp [*]; done))

theorem c_spec_SumOfCorners_huge {a b c d e f g i m : Int}  (h : isCornF a b c d = true) (k : isCornF e f g i = true) (hm : isCoordF m = true) (hb : (bigF a b c d || bigF e f g i) = true) : CallOK Try.prog n_spec_SumOfCorners [q4 a b c d, q4 e f g i, ii m] [] (fun v m_ => v = t2 (q4 0 0 0 0) (ii 3) ∧ m_ = []) := by
  refine callOK_ofF good fn_spec_SumOfCorners ?_
  conv => whnf
  all_goals (repeat' first
    | (refine CallR.call1 (spec_lim_huge h k hb) rfl rfl ⟨_, rfl⟩ ?_; conv => whnf)
    | exact out_forget [] ⟨rfl, rfl⟩ rfl (okB2_spec rfl) trivial rfl rfl
    | (refine StoreK.mk rfl ?_; conv => whnf)
    | exact join_same
    | exact (by assumption : (_ : Bool) = (_ : Bool))
    | (refine br_true (by assumption) ?_; conv => whnf)
    | (refine br_false (by assumption) ?_; conv => whnf)
    | (refine br_not ?_; conv => whnf)
    | (refine br_code ?_; conv => whnf)
    | (with_reducible refine br_and ?_; conv => whnf)
    | (with_reducible refine br_or ?_; conv => whnf)
    | (refine br_eq2 ?_; conv => whnf)
    | (refine c_spec_l01Fits.call ?_; conv => whnf)
    | (refine c_spec_l01Fits.quiet ?_; conv => whnf)
    | (refine c_spec_l02Sine.call ?_; conv => whnf)
    | (refine c_spec_l02Sine.quiet ?_; conv => whnf)
    | (refine (c_spec_l02Cosine ?_).call ?_ <;> conv => whnf)
    | (refine (c_spec_l02Cosine ?_).quiet ?_ <;> conv => whnf)
    | (refine CallOK.useR (c_spec_l02Long (by first | assumption | exact Row.lit rfl rfl | omega) (by first | assumption | exact Row.lit rfl rfl | omega)) [] rfl rfl rfl trivial (fun v_ mem_ hR => ?_); obtain ⟨n_, c_, sp_, hrow_, hn_, rfl, rfl⟩ := hR; refine ⟨rfl, ?_⟩; conv => whnf)
    | (refine c_spec_l02Normal.call ?_; conv => whnf)
    | (refine c_spec_l02Normal.quiet ?_; conv => whnf)
    | (refine draw_auto (by decide +kernel) ?_; conv => whnf)
    | (refine draw_asg (by decide +kernel) ?_; conv => whnf)
    | (refine draw_st (by decide +kernel) ?_; conv => whnf)
    | (refine draw_call (by decide +kernel) ?_; conv => whnf)
    | (refine enter_same (loop_n 12 ?_); conv => whnf)
    | (refine next_same ?_; conv => whnf)
    | (refine mapK_row (by assumption) ?_; conv => whnf)
    | (refine mapK_plain (Plain.of rfl) ?_; conv => whnf)
    | (refine mapK_lit ?_; conv => whnf)
    | (refine br_split (fun _ => ?_) (fun _ => ?_) <;> conv => whnf)
    | exact (rfl : (_ : Value) = _)
    | (simp only [*]; exact (rfl : (_ : Value) = _))
    | (simp [*]; done))

end Go.Proofs.Ytlkbfpklhncfbaa
