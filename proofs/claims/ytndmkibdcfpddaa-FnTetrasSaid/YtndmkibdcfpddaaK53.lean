/-
  Contracts of functions of the program (printed by a program of this work; Lean checks each).
  Conditions: as each contract states.
-/
import Derived.Test.YtndmkibdcfpddaaK52
import Derived.Test.YtndmkibdcfpddaaK34
import Derived.Test.YtndmkibdcfpddaaFnT
namespace Go.Proofs.Ytndmkibdcfpddaa
open Go.Ev Go.RowKit
set_option maxRecDepth 100000
set_option linter.unusedVariables false
set_option linter.unusedSimpArgs false

attribute [local irreducible] isTetF cntF tvF crF volF dotF gcdF

theorem c_impl_Spot_length {a b c : Int}  : Pure Try.prog n_impl_Spot_length [v3 a b c] (ii (lnF a b c)) := by
  refine pure_of good fn_impl_Spot_length rfl rfl ?_
  conv => whnf
  all_goals (repeat' first
    | (refine StoreK.mk rfl ?_; conv => whnf)
    | exact join_same
    | exact (by assumption : (_ : Bool) = (_ : Bool))
    | (refine br_true (by assumption) ?_; conv => whnf)
    | (refine br_false (by assumption) ?_; conv => whnf)
    | (refine br_not ?_; conv => whnf)
    | (refine br_code ?_; conv => whnf)
    | (with_reducible refine br_and ?_; conv => whnf)
    | (with_reducible refine br_or ?_; conv => whnf)
    | (refine br_eq2 ?_; conv => whnf)
    | (refine c_impl_gcd.call ?_; conv => whnf)
    | (refine c_impl_gcd.quiet ?_; conv => whnf)
    | (refine draw_auto (by decide +kernel) ?_; conv => whnf)
    | (refine draw_asg (by decide +kernel) ?_; conv => whnf)
    | (refine draw_st (by decide +kernel) ?_; conv => whnf)
    | (refine draw_call (by decide +kernel) ?_; conv => whnf)
    | (refine enter_same (loop_n 12 ?_); conv => whnf)
    | (refine next_same ?_; conv => whnf)
    | (refine mapK_row (by assumption) ?_; conv => whnf)
    | (refine mapK_plain (Plain.of rfl) ?_; conv => whnf)
    | (refine mapK_lit ?_; conv => whnf)
    | (refine br_split (fun _ => ?_) (fun _ => ?_) <;> conv => whnf)
    | exact (rfl : (_ : Value) = _)
    | (simp only [*]; exact (rfl : (_ : Value) = _))
    | (simp [lnF, *]; done))

theorem c_spec_l08Length {a b c : Int}  : Pure Try.prog n_spec_l08Length [v3 a b c] (ii (lnF a b c)) := by
  refine pure_of good fn_spec_l08Length rfl rfl ?_
  conv => whnf
  all_goals (repeat' first
    | (refine StoreK.mk rfl ?_; conv => whnf)
    | exact join_same
    | exact (by assumption : (_ : Bool) = (_ : Bool))
    | (refine br_true (by assumption) ?_; conv => whnf)
    | (refine br_false (by assumption) ?_; conv => whnf)
    | (refine br_not ?_; conv => whnf)
    | (refine br_code ?_; conv => whnf)
    | (with_reducible refine br_and ?_; conv => whnf)
    | (with_reducible refine br_or ?_; conv => whnf)
    | (refine br_eq2 ?_; conv => whnf)
    | (refine c_spec_l01Gcd.call ?_; conv => whnf)
    | (refine c_spec_l01Gcd.quiet ?_; conv => whnf)
    | (refine draw_auto (by decide +kernel) ?_; conv => whnf)
    | (refine draw_asg (by decide +kernel) ?_; conv => whnf)
    | (refine draw_st (by decide +kernel) ?_; conv => whnf)
    | (refine draw_call (by decide +kernel) ?_; conv => whnf)
    | (refine enter_same (loop_n 12 ?_); conv => whnf)
    | (refine next_same ?_; conv => whnf)
    | (refine mapK_row (by assumption) ?_; conv => whnf)
    | (refine mapK_plain (Plain.of rfl) ?_; conv => whnf)
    | (refine mapK_lit ?_; conv => whnf)
    | (refine br_split (fun _ => ?_) (fun _ => ?_) <;> conv => whnf)
    | exact (rfl : (_ : Value) = _)
    | (simp only [*]; exact (rfl : (_ : Value) = _))
    | (simp [lnF, *]; done))

theorem c_impl_VolumeOf {a b c d e f g h i x y z : Int}  : Pure Try.prog n_impl_VolumeOf [v12 a b c d e f g h i x y z] (t2 (ii (vlV a b c d e f g h i x y z)) (ii (cnE a b c d e f g h i x y z))) := by
  refine pure_of good fn_impl_VolumeOf rfl rfl ?_
  conv => whnf
  all_goals (repeat' first
    | (refine StoreK.mk rfl ?_; conv => whnf)
    | exact join_same
    | exact (by assumption : (_ : Bool) = (_ : Bool))
    | (refine br_true (by assumption) ?_; conv => whnf)
    | (refine br_false (by assumption) ?_; conv => whnf)
    | (refine br_not ?_; conv => whnf)
    | (refine br_code ?_; conv => whnf)
    | (with_reducible refine br_and ?_; conv => whnf)
    | (with_reducible refine br_or ?_; conv => whnf)
    | (refine br_eq2 ?_; conv => whnf)
    | (refine c_impl_IsTetra.call ?_; conv => whnf)
    | (refine c_impl_IsTetra.quiet ?_; conv => whnf)
    | (refine c_impl_Tetra_volume.call ?_; conv => whnf)
    | (refine c_impl_Tetra_volume.quiet ?_; conv => whnf)
    | (refine draw_auto (by decide +kernel) ?_; conv => whnf)
    | (refine draw_asg (by decide +kernel) ?_; conv => whnf)
    | (refine draw_st (by decide +kernel) ?_; conv => whnf)
    | (refine draw_call (by decide +kernel) ?_; conv => whnf)
    | (refine enter_same (loop_n 12 ?_); conv => whnf)
    | (refine next_same ?_; conv => whnf)
    | (refine mapK_row (by assumption) ?_; conv => whnf)
    | (refine mapK_plain (Plain.of rfl) ?_; conv => whnf)
    | (refine mapK_lit ?_; conv => whnf)
    | (refine br_split (fun _ => ?_) (fun _ => ?_) <;> conv => whnf)
    | exact (rfl : (_ : Value) = _)
    | (simp only [*]; exact (rfl : (_ : Value) = _))
    | (simp [vlV, cnE, selF, *]; done))

theorem c_impl_CountSpots_all {a b c d e f g h i x y z : Int} : Pure Try.prog n_impl_CountSpots [v12 a b c d e f g h i x y z] (t2 (ii (cnV a b c d e f g h i x y z)) (ii (cnE a b c d e f g h i x y z))) := by
  cases h1 : isTetF a b c d e f g h i x y z
  · simp only [cnV, cnE, h1]; exact c_impl_CountSpots_no h1
  · simp only [cnV, cnE, h1]; exact c_impl_CountSpots_ok h1

theorem c_impl_IsEmptyTetra_all {a b c d e f g h i x y z : Int} : Pure Try.prog n_impl_IsEmptyTetra [v12 a b c d e f g h i x y z] (t2 (bb (emV a b c d e f g h i x y z)) (ii (cnE a b c d e f g h i x y z))) := by
  cases h1 : isTetF a b c d e f g h i x y z
  · simp only [emV, cnE, h1]; exact c_impl_IsEmptyTetra_no h1
  · simp only [emV, cnE, h1]; exact c_impl_IsEmptyTetra_ok h1

theorem c_spec_VolumeOf {a b c d e f g h i x y z : Int}  : Pure Try.prog n_spec_VolumeOf [v12 a b c d e f g h i x y z] (t2 (ii (vlV a b c d e f g h i x y z)) (ii (cnE a b c d e f g h i x y z))) := by
  refine pure_of good fn_spec_VolumeOf rfl rfl ?_
  conv => whnf
  all_goals (repeat' first
    | (refine StoreK.mk rfl ?_; conv => whnf)
    | exact join_same
    | exact (by assumption : (_ : Bool) = (_ : Bool))
    | (refine br_true (by assumption) ?_; conv => whnf)
    | (refine br_false (by assumption) ?_; conv => whnf)
    | (refine br_not ?_; conv => whnf)
    | (refine br_code ?_; conv => whnf)
    | (with_reducible refine br_and ?_; conv => whnf)
    | (with_reducible refine br_or ?_; conv => whnf)
    | (refine br_eq2 ?_; conv => whnf)
    | (refine c_spec_l08Tetra.call ?_; conv => whnf)
    | (refine c_spec_l08Tetra.quiet ?_; conv => whnf)
    | (refine c_spec_l08Volume.call ?_; conv => whnf)
    | (refine c_spec_l08Volume.quiet ?_; conv => whnf)
    | (refine draw_auto (by decide +kernel) ?_; conv => whnf)
    | (refine draw_asg (by decide +kernel) ?_; conv => whnf)
    | (refine draw_st (by decide +kernel) ?_; conv => whnf)
    | (refine draw_call (by decide +kernel) ?_; conv => whnf)
    | (refine enter_same (loop_n 12 ?_); conv => whnf)
    | (refine next_same ?_; conv => whnf)
    | (refine mapK_row (by assumption) ?_; conv => whnf)
    | (refine mapK_plain (Plain.of rfl) ?_; conv => whnf)
    | (refine mapK_lit ?_; conv => whnf)
    | (refine br_split (fun _ => ?_) (fun _ => ?_) <;> conv => whnf)
    | exact (rfl : (_ : Value) = _)
    | (simp only [*]; exact (rfl : (_ : Value) = _))
    | (simp [vlV, cnE, selF, *]; done))

theorem c_spec_CountSpots_all {a b c d e f g h i x y z : Int} : Pure Try.prog n_spec_CountSpots [v12 a b c d e f g h i x y z] (t2 (ii (cnV a b c d e f g h i x y z)) (ii (cnE a b c d e f g h i x y z))) := by
  cases h1 : isTetF a b c d e f g h i x y z
  · simp only [cnV, cnE, h1]; exact c_spec_CountSpots_no h1
  · simp only [cnV, cnE, h1]; exact c_spec_CountSpots_ok h1

theorem c_spec_IsEmptyTetra_all {a b c d e f g h i x y z : Int} : Pure Try.prog n_spec_IsEmptyTetra [v12 a b c d e f g h i x y z] (t2 (bb (emV a b c d e f g h i x y z)) (ii (cnE a b c d e f g h i x y z))) := by
  cases h1 : isTetF a b c d e f g h i x y z
  · simp only [emV, cnE, h1]; exact c_spec_IsEmptyTetra_no h1
  · simp only [emV, cnE, h1]; exact c_spec_IsEmptyTetra_ok h1

theorem c_spec_IsTetra {a b c d e f g h i x y z : Int}  : Pure Try.prog n_spec_IsTetra [v12 a b c d e f g h i x y z] (bb (isTetF a b c d e f g h i x y z)) := by
  refine pure_of good fn_spec_IsTetra rfl rfl ?_
  conv => whnf
  all_goals (repeat' first
    | (refine StoreK.mk rfl ?_; conv => whnf)
    | exact join_same
    | exact (by assumption : (_ : Bool) = (_ : Bool))
    | (refine br_true (by assumption) ?_; conv => whnf)
    | (refine br_false (by assumption) ?_; conv => whnf)
    | (refine br_not ?_; conv => whnf)
    | (refine br_code ?_; conv => whnf)
    | (with_reducible refine br_and ?_; conv => whnf)
    | (with_reducible refine br_or ?_; conv => whnf)
    | (refine br_eq2 ?_; conv => whnf)
    | (refine c_spec_l08Tetra.call ?_; conv => whnf)
    | (refine c_spec_l08Tetra.quiet ?_; conv => whnf)
    | (refine draw_auto (by decide +kernel) ?_; conv => whnf)
    | (refine draw_asg (by decide +kernel) ?_; conv => whnf)
    | (refine draw_st (by decide +kernel) ?_; conv => whnf)
    | (refine draw_call (by decide +kernel) ?_; conv => whnf)
    | (refine enter_same (loop_n 12 ?_); conv => whnf)
    | (refine next_same ?_; conv => whnf)
    | (refine mapK_row (by assumption) ?_; conv => whnf)
    | (refine mapK_plain (Plain.of rfl) ?_; conv => whnf)
    | (refine mapK_lit ?_; conv => whnf)
    | (refine br_split (fun _ => ?_) (fun _ => ?_) <;> conv => whnf)
    | exact (rfl : (_ : Value) = _)
    | (simp only [*]; exact (rfl : (_ : Value) = _))
    | (simp [*]; done))

theorem c_impl_Dist_no {a b c d e f g h i x y z : Int} (h1 : spsF a b c d e f g h i x y z = false) : Pure Try.prog n_impl_DistanceOfSpot [v3 a b c, v3 d e f, v3 g h i, v3 x y z] (t2 (ii 0) (ii 1)) := by
  refine pure_of good fn_impl_DistanceOfSpot rfl rfl ?_
  conv => whnf
  all_goals (repeat' first
    | (refine br_true h1 ?_; conv => whnf)
    | (refine br_false h1 ?_; conv => whnf)
    | (refine br_true h2 ?_; conv => whnf)
    | (refine br_false h2 ?_; conv => whnf)
    | (refine StoreK.mk rfl ?_; conv => whnf)
    | exact join_same
    | exact (by assumption : (_ : Bool) = (_ : Bool))
    | (refine br_true (by assumption) ?_; conv => whnf)
    | (refine br_false (by assumption) ?_; conv => whnf)
    | (refine br_not ?_; conv => whnf)
    | (refine br_code ?_; conv => whnf)
    | (with_reducible refine br_and ?_; conv => whnf)
    | (with_reducible refine br_or ?_; conv => whnf)
    | (refine br_eq2 ?_; conv => whnf)
    | (refine c_spots_1.call1 rfl rfl ⟨_, rfl⟩ ?_; conv => whnf)
    | (refine c_spots_1.quiet1 rfl rfl ⟨_, rfl⟩ ?_; conv => whnf)
    | (refine c_spots_2.call1 rfl rfl ⟨_, rfl⟩ ?_; conv => whnf)
    | (refine c_spots_2.quiet1 rfl rfl ⟨_, rfl⟩ ?_; conv => whnf)
    | (refine c_spots_3.call1 rfl rfl ⟨_, rfl⟩ ?_; conv => whnf)
    | (refine c_spots_3.quiet1 rfl rfl ⟨_, rfl⟩ ?_; conv => whnf)
    | (refine c_spots_4.call1 rfl rfl ⟨_, rfl⟩ ?_; conv => whnf)
    | (refine c_spots_4.quiet1 rfl rfl ⟨_, rfl⟩ ?_; conv => whnf)
    | (refine c_impl_Spot_less.call ?_; conv => whnf)
    | (refine c_impl_Spot_less.quiet ?_; conv => whnf)
    | (refine c_impl_cross.call ?_; conv => whnf)
    | (refine c_impl_cross.quiet ?_; conv => whnf)
    | (refine c_impl_volume.call ?_; conv => whnf)
    | (refine c_impl_volume.quiet ?_; conv => whnf)
    | (refine c_impl_size.call ?_; conv => whnf)
    | (refine c_impl_size.quiet ?_; conv => whnf)
    | (refine c_impl_Spot_length.call ?_; conv => whnf)
    | (refine c_impl_Spot_length.quiet ?_; conv => whnf)
    | (refine draw_auto (by decide +kernel) ?_; conv => whnf)
    | (refine draw_asg (by decide +kernel) ?_; conv => whnf)
    | (refine draw_st (by decide +kernel) ?_; conv => whnf)
    | (refine draw_call (by decide +kernel) ?_; conv => whnf)
    | (refine enter_same (loop_n 12 ?_); conv => whnf)
    | (refine next_same ?_; conv => whnf)
    | (refine mapK_row (by assumption) ?_; conv => whnf)
    | (refine mapK_plain (Plain.of rfl) ?_; conv => whnf)
    | (refine mapK_lit ?_; conv => whnf)
    | (refine br_split (fun _ => ?_) (fun _ => ?_) <;> conv => whnf)
    | exact (rfl : (_ : Value) = _)
    | (exfalso; simp [spsF, *] at h1; done)
    | (simp only [*]; exact (rfl : (_ : Value) = _))
    | (simp [*]; done))

theorem c_impl_Dist_z {a b c d e f g h i x y z : Int} (h1 : spsF a b c d e f g h i x y z = true) (h2 : csF a b c d e f g h i = true) : Pure Try.prog n_impl_DistanceOfSpot [v3 a b c, v3 d e f, v3 g h i, v3 x y z] (t2 (ii 0) (ii 5)) := by
  have k_ := spsF_ok h1; have k0_ := k_.s0; have k1_ := k_.s1; have k2_ := k_.s2; have k3_ := k_.s3; refine pure_of good fn_impl_DistanceOfSpot rfl rfl ?_
  conv => whnf
  all_goals (repeat' first
    | (refine br_true h1 ?_; conv => whnf)
    | (refine br_false h1 ?_; conv => whnf)
    | (refine br_true h2 ?_; conv => whnf)
    | (refine br_false h2 ?_; conv => whnf)
    | (refine StoreK.mk rfl ?_; conv => whnf)
    | exact join_same
    | exact (by assumption : (_ : Bool) = (_ : Bool))
    | (refine br_true (by assumption) ?_; conv => whnf)
    | (refine br_false (by assumption) ?_; conv => whnf)
    | (refine br_not ?_; conv => whnf)
    | (refine br_code ?_; conv => whnf)
    | (with_reducible refine br_and ?_; conv => whnf)
    | (with_reducible refine br_or ?_; conv => whnf)
    | (refine br_eq2 ?_; conv => whnf)
    | (refine c_spots_1.call1 rfl rfl ⟨_, rfl⟩ ?_; conv => whnf)
    | (refine c_spots_1.quiet1 rfl rfl ⟨_, rfl⟩ ?_; conv => whnf)
    | (refine c_spots_2.call1 rfl rfl ⟨_, rfl⟩ ?_; conv => whnf)
    | (refine c_spots_2.quiet1 rfl rfl ⟨_, rfl⟩ ?_; conv => whnf)
    | (refine c_spots_3.call1 rfl rfl ⟨_, rfl⟩ ?_; conv => whnf)
    | (refine c_spots_3.quiet1 rfl rfl ⟨_, rfl⟩ ?_; conv => whnf)
    | (refine c_spots_4.call1 rfl rfl ⟨_, rfl⟩ ?_; conv => whnf)
    | (refine c_spots_4.quiet1 rfl rfl ⟨_, rfl⟩ ?_; conv => whnf)
    | (refine c_impl_Spot_less.call ?_; conv => whnf)
    | (refine c_impl_Spot_less.quiet ?_; conv => whnf)
    | (refine c_impl_cross.call ?_; conv => whnf)
    | (refine c_impl_cross.quiet ?_; conv => whnf)
    | (refine c_impl_volume.call ?_; conv => whnf)
    | (refine c_impl_volume.quiet ?_; conv => whnf)
    | (refine c_impl_size.call ?_; conv => whnf)
    | (refine c_impl_size.quiet ?_; conv => whnf)
    | (refine c_impl_Spot_length.call ?_; conv => whnf)
    | (refine c_impl_Spot_length.quiet ?_; conv => whnf)
    | (refine draw_auto (by decide +kernel) ?_; conv => whnf)
    | (refine draw_asg (by decide +kernel) ?_; conv => whnf)
    | (refine draw_st (by decide +kernel) ?_; conv => whnf)
    | (refine draw_call (by decide +kernel) ?_; conv => whnf)
    | (refine enter_same (loop_n 12 ?_); conv => whnf)
    | (refine next_same ?_; conv => whnf)
    | (refine mapK_row (by assumption) ?_; conv => whnf)
    | (refine mapK_plain (Plain.of rfl) ?_; conv => whnf)
    | (refine mapK_lit ?_; conv => whnf)
    | (refine br_split (fun _ => ?_) (fun _ => ?_) <;> conv => whnf)
    | exact (rfl : (_ : Value) = _)
    | (simp only [*]; exact (rfl : (_ : Value) = _))
    | (simp [*]; done))

theorem c_impl_Dist_ok {a b c d e f g h i x y z : Int} (h1 : spsF a b c d e f g h i x y z = true) (h2 : csF a b c d e f g h i = false) : Pure Try.prog n_impl_DistanceOfSpot [v3 a b c, v3 d e f, v3 g h i, v3 x y z] (t2 (ii (dsQ a b c d e f g h i x y z)) (ii 0)) := by
  have k_ := spsF_ok h1; have k0_ := k_.s0; have k1_ := k_.s1; have k2_ := k_.s2; have k3_ := k_.s3; refine pure_of good fn_impl_DistanceOfSpot rfl rfl ?_
  conv => whnf
  all_goals (repeat' first
    | (refine br_true h1 ?_; conv => whnf)
    | (refine br_false h1 ?_; conv => whnf)
    | (refine br_true h2 ?_; conv => whnf)
    | (refine br_false h2 ?_; conv => whnf)
    | (refine br_false (ds_ln h1 h2) ?_; conv => whnf)
    | (refine StoreK.mk rfl ?_; conv => whnf)
    | exact join_same
    | exact (by assumption : (_ : Bool) = (_ : Bool))
    | (refine br_true (by assumption) ?_; conv => whnf)
    | (refine br_false (by assumption) ?_; conv => whnf)
    | (refine br_not ?_; conv => whnf)
    | (refine br_code ?_; conv => whnf)
    | (with_reducible refine br_and ?_; conv => whnf)
    | (with_reducible refine br_or ?_; conv => whnf)
    | (refine br_eq2 ?_; conv => whnf)
    | (refine c_spots_1.call1 rfl rfl ⟨_, rfl⟩ ?_; conv => whnf)
    | (refine c_spots_1.quiet1 rfl rfl ⟨_, rfl⟩ ?_; conv => whnf)
    | (refine c_spots_2.call1 rfl rfl ⟨_, rfl⟩ ?_; conv => whnf)
    | (refine c_spots_2.quiet1 rfl rfl ⟨_, rfl⟩ ?_; conv => whnf)
    | (refine c_spots_3.call1 rfl rfl ⟨_, rfl⟩ ?_; conv => whnf)
    | (refine c_spots_3.quiet1 rfl rfl ⟨_, rfl⟩ ?_; conv => whnf)
    | (refine c_spots_4.call1 rfl rfl ⟨_, rfl⟩ ?_; conv => whnf)
    | (refine c_spots_4.quiet1 rfl rfl ⟨_, rfl⟩ ?_; conv => whnf)
    | (refine c_impl_Spot_less.call ?_; conv => whnf)
    | (refine c_impl_Spot_less.quiet ?_; conv => whnf)
    | (refine c_impl_cross.call ?_; conv => whnf)
    | (refine c_impl_cross.quiet ?_; conv => whnf)
    | (refine c_impl_volume.call ?_; conv => whnf)
    | (refine c_impl_volume.quiet ?_; conv => whnf)
    | (refine c_impl_size.call ?_; conv => whnf)
    | (refine c_impl_size.quiet ?_; conv => whnf)
    | (refine c_impl_Spot_length.call ?_; conv => whnf)
    | (refine c_impl_Spot_length.quiet ?_; conv => whnf)
    | (refine draw_auto (by decide +kernel) ?_; conv => whnf)
    | (refine draw_asg (by decide +kernel) ?_; conv => whnf)
    | (refine draw_st (by decide +kernel) ?_; conv => whnf)
    | (refine draw_call (by decide +kernel) ?_; conv => whnf)
    | (refine enter_same (loop_n 12 ?_); conv => whnf)
    | (refine next_same ?_; conv => whnf)
    | (refine mapK_row (by assumption) ?_; conv => whnf)
    | (refine mapK_plain (Plain.of rfl) ?_; conv => whnf)
    | (refine mapK_lit ?_; conv => whnf)
    | (refine br_split (fun _ => ?_) (fun _ => ?_) <;> conv => whnf)
    | exact (rfl : (_ : Value) = _)
    | exact congrArg (fun n_ => t2 (ii n_) (ii 0)) (ds_spec h1 h2)
    | (simp only [*]; exact (rfl : (_ : Value) = _))
    | (simp [*]; done))

theorem c_impl_Dist_all {a b c d e f g h i x y z : Int} : Pure Try.prog n_impl_DistanceOfSpot [v3 a b c, v3 d e f, v3 g h i, v3 x y z] (t2 (ii (dsV a b c d e f g h i x y z)) (ii (dsE a b c d e f g h i x y z))) := by
  cases h1 : spsF a b c d e f g h i x y z
  · simp only [dsV, dsE, h1]; exact c_impl_Dist_no h1
  · cases h2 : csF a b c d e f g h i
    · simp only [dsV, dsE, h1, h2]; exact c_impl_Dist_ok h1 h2
    · simp only [dsV, dsE, h1, h2]; exact c_impl_Dist_z h1 h2

theorem c_spec_Dist_no {a b c d e f g h i x y z : Int} (h1 : spsF a b c d e f g h i x y z = false) : Pure Try.prog n_spec_DistanceOfSpot [v3 a b c, v3 d e f, v3 g h i, v3 x y z] (t2 (ii 0) (ii 1)) := by
  refine pure_of good fn_spec_DistanceOfSpot rfl rfl ?_
  conv => whnf
  all_goals (repeat' first
    | (refine br_true h1 ?_; conv => whnf)
    | (refine br_false h1 ?_; conv => whnf)
    | (refine br_true h2 ?_; conv => whnf)
    | (refine br_false h2 ?_; conv => whnf)
    | (refine StoreK.mk rfl ?_; conv => whnf)
    | exact join_same
    | exact (by assumption : (_ : Bool) = (_ : Bool))
    | (refine br_true (by assumption) ?_; conv => whnf)
    | (refine br_false (by assumption) ?_; conv => whnf)
    | (refine br_not ?_; conv => whnf)
    | (refine br_code ?_; conv => whnf)
    | (with_reducible refine br_and ?_; conv => whnf)
    | (with_reducible refine br_or ?_; conv => whnf)
    | (refine br_eq2 ?_; conv => whnf)
    | (refine c_spec_l08Spot.call ?_; conv => whnf)
    | (refine c_spec_l08Spot.quiet ?_; conv => whnf)
    | (refine c_spec_l08Plus.call ?_; conv => whnf)
    | (refine c_spec_l08Plus.quiet ?_; conv => whnf)
    | (refine c_spec_l08Cross.call ?_; conv => whnf)
    | (refine c_spec_l08Cross.quiet ?_; conv => whnf)
    | (refine c_spec_l08Dot.call ?_; conv => whnf)
    | (refine c_spec_l08Dot.quiet ?_; conv => whnf)
    | (refine c_spec_l08Length.call ?_; conv => whnf)
    | (refine c_spec_l08Length.quiet ?_; conv => whnf)
    | (refine draw_auto (by decide +kernel) ?_; conv => whnf)
    | (refine draw_asg (by decide +kernel) ?_; conv => whnf)
    | (refine draw_st (by decide +kernel) ?_; conv => whnf)
    | (refine draw_call (by decide +kernel) ?_; conv => whnf)
    | (refine enter_same (loop_n 12 ?_); conv => whnf)
    | (refine next_same ?_; conv => whnf)
    | (refine mapK_row (by assumption) ?_; conv => whnf)
    | (refine mapK_plain (Plain.of rfl) ?_; conv => whnf)
    | (refine mapK_lit ?_; conv => whnf)
    | (refine br_split (fun _ => ?_) (fun _ => ?_) <;> conv => whnf)
    | exact (rfl : (_ : Value) = _)
    | (exfalso; simp [spsF, *] at h1; done)
    | (simp only [*]; exact (rfl : (_ : Value) = _))
    | (simp [*]; done))

theorem c_spec_Dist_z {a b c d e f g h i x y z : Int} (h1 : spsF a b c d e f g h i x y z = true) (h2 : csF a b c d e f g h i = true) : Pure Try.prog n_spec_DistanceOfSpot [v3 a b c, v3 d e f, v3 g h i, v3 x y z] (t2 (ii 0) (ii 5)) := by
  have k_ := spsF_ok h1; have k0_ := k_.s0; have k1_ := k_.s1; have k2_ := k_.s2; have k3_ := k_.s3; refine pure_of good fn_spec_DistanceOfSpot rfl rfl ?_
  conv => whnf
  all_goals (repeat' first
    | (refine br_true h1 ?_; conv => whnf)
    | (refine br_false h1 ?_; conv => whnf)
    | (refine br_true h2 ?_; conv => whnf)
    | (refine br_false h2 ?_; conv => whnf)
    | (refine StoreK.mk rfl ?_; conv => whnf)
    | exact join_same
    | exact (by assumption : (_ : Bool) = (_ : Bool))
    | (refine br_true (by assumption) ?_; conv => whnf)
    | (refine br_false (by assumption) ?_; conv => whnf)
    | (refine br_not ?_; conv => whnf)
    | (refine br_code ?_; conv => whnf)
    | (with_reducible refine br_and ?_; conv => whnf)
    | (with_reducible refine br_or ?_; conv => whnf)
    | (refine br_eq2 ?_; conv => whnf)
    | (refine c_spec_l08Spot.call ?_; conv => whnf)
    | (refine c_spec_l08Spot.quiet ?_; conv => whnf)
    | (refine c_spec_l08Plus.call ?_; conv => whnf)
    | (refine c_spec_l08Plus.quiet ?_; conv => whnf)
    | (refine c_spec_l08Cross.call ?_; conv => whnf)
    | (refine c_spec_l08Cross.quiet ?_; conv => whnf)
    | (refine c_spec_l08Dot.call ?_; conv => whnf)
    | (refine c_spec_l08Dot.quiet ?_; conv => whnf)
    | (refine c_spec_l08Length.call ?_; conv => whnf)
    | (refine c_spec_l08Length.quiet ?_; conv => whnf)
    | (refine draw_auto (by decide +kernel) ?_; conv => whnf)
    | (refine draw_asg (by decide +kernel) ?_; conv => whnf)
    | (refine draw_st (by decide +kernel) ?_; conv => whnf)
    | (refine draw_call (by decide +kernel) ?_; conv => whnf)
    | (refine enter_same (loop_n 12 ?_); conv => whnf)
    | (refine next_same ?_; conv => whnf)
    | (refine mapK_row (by assumption) ?_; conv => whnf)
    | (refine mapK_plain (Plain.of rfl) ?_; conv => whnf)
    | (refine mapK_lit ?_; conv => whnf)
    | (refine br_split (fun _ => ?_) (fun _ => ?_) <;> conv => whnf)
    | exact (rfl : (_ : Value) = _)
    | (simp only [*]; exact (rfl : (_ : Value) = _))
    | (simp [*]; done))

theorem c_spec_Dist_ok {a b c d e f g h i x y z : Int} (h1 : spsF a b c d e f g h i x y z = true) (h2 : csF a b c d e f g h i = false) : Pure Try.prog n_spec_DistanceOfSpot [v3 a b c, v3 d e f, v3 g h i, v3 x y z] (t2 (ii (dsQ a b c d e f g h i x y z)) (ii 0)) := by
  have k_ := spsF_ok h1; have k0_ := k_.s0; have k1_ := k_.s1; have k2_ := k_.s2; have k3_ := k_.s3; refine pure_of good fn_spec_DistanceOfSpot rfl rfl ?_
  conv => whnf
  all_goals (repeat' first
    | (refine br_true h1 ?_; conv => whnf)
    | (refine br_false h1 ?_; conv => whnf)
    | (refine br_true h2 ?_; conv => whnf)
    | (refine br_false h2 ?_; conv => whnf)
    | (refine br_false (ds_ln h1 h2) ?_; conv => whnf)
    | (refine StoreK.mk rfl ?_; conv => whnf)
    | exact join_same
    | exact (by assumption : (_ : Bool) = (_ : Bool))
    | (refine br_true (by assumption) ?_; conv => whnf)
    | (refine br_false (by assumption) ?_; conv => whnf)
    | (refine br_not ?_; conv => whnf)
    | (refine br_code ?_; conv => whnf)
    | (with_reducible refine br_and ?_; conv => whnf)
    | (with_reducible refine br_or ?_; conv => whnf)
    | (refine br_eq2 ?_; conv => whnf)
    | (refine c_spec_l08Spot.call ?_; conv => whnf)
    | (refine c_spec_l08Spot.quiet ?_; conv => whnf)
    | (refine c_spec_l08Plus.call ?_; conv => whnf)
    | (refine c_spec_l08Plus.quiet ?_; conv => whnf)
    | (refine c_spec_l08Cross.call ?_; conv => whnf)
    | (refine c_spec_l08Cross.quiet ?_; conv => whnf)
    | (refine c_spec_l08Dot.call ?_; conv => whnf)
    | (refine c_spec_l08Dot.quiet ?_; conv => whnf)
    | (refine c_spec_l08Length.call ?_; conv => whnf)
    | (refine c_spec_l08Length.quiet ?_; conv => whnf)
    | (refine draw_auto (by decide +kernel) ?_; conv => whnf)
    | (refine draw_asg (by decide +kernel) ?_; conv => whnf)
    | (refine draw_st (by decide +kernel) ?_; conv => whnf)
    | (refine draw_call (by decide +kernel) ?_; conv => whnf)
    | (refine enter_same (loop_n 12 ?_); conv => whnf)
    | (refine next_same ?_; conv => whnf)
    | (refine mapK_row (by assumption) ?_; conv => whnf)
    | (refine mapK_plain (Plain.of rfl) ?_; conv => whnf)
    | (refine mapK_lit ?_; conv => whnf)
    | (refine br_split (fun _ => ?_) (fun _ => ?_) <;> conv => whnf)
    | exact (rfl : (_ : Value) = _)
    | exact congrArg (fun n_ => t2 (ii n_) (ii 0)) (ds_spec h1 h2)
    | (simp only [*]; exact (rfl : (_ : Value) = _))
    | (simp [*]; done))

theorem c_spec_Dist_all {a b c d e f g h i x y z : Int} : Pure Try.prog n_spec_DistanceOfSpot [v3 a b c, v3 d e f, v3 g h i, v3 x y z] (t2 (ii (dsV a b c d e f g h i x y z)) (ii (dsE a b c d e f g h i x y z))) := by
  cases h1 : spsF a b c d e f g h i x y z
  · simp only [dsV, dsE, h1]; exact c_spec_Dist_no h1
  · cases h2 : csF a b c d e f g h i
    · simp only [dsV, dsE, h1, h2]; exact c_spec_Dist_ok h1 h2
    · simp only [dsV, dsE, h1, h2]; exact c_spec_Dist_z h1 h2

end Go.Proofs.Ytndmkibdcfpddaa
