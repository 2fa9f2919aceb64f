/-
  Contracts of functions of the program (printed by a program of this work; Lean checks each).
  Conditions: as each contract states.
-/
import Derived.Test.YtndmkibdcfpddaaK53
import Derived.Test.YtndmkibdcfpddaaRun
namespace Go.Proofs.Ytndmkibdcfpddaa
open Go.Ev Go.RowKit
set_option maxRecDepth 100000
set_option linter.unusedVariables false
set_option linter.unusedSimpArgs false

theorem c_big_L {zs : List Int} {off n c : Nat}  : CallOK Try.prog n_laws_big [.slice (some ⟨0, off, none⟩) n c] [(away off (bl zs), none)] (fun v m_ => v = bb (decide (((n : Nat) : Int) > 4096)) ∧ m_ = [(away off (bl zs), none)]) := by
  refine callOK_ofF good fn_laws_big ?_
  conv => whnf
  all_goals (repeat' first
    | (show OutK _ _ _ _; exact out_forget [] ⟨rfl, rfl⟩ rfl (okB2_spec rfl) ⟨⟨⟨_, rfl, .lit (away_conc (bl_plain _) _).symm rfl (away_ok (bl_plain _) _)⟩⟩, trivial⟩ rfl rfl)
    | (refine StoreK.mk rfl ?_; conv => whnf)
    | exact join_same
    | exact (by assumption : (_ : Bool) = (_ : Bool))
    | (refine br_true (by assumption) ?_; conv => whnf)
    | (refine br_false (by assumption) ?_; conv => whnf)
    | (refine br_not ?_; conv => whnf)
    | (refine br_code ?_; conv => whnf)
    | (with_reducible refine br_and ?_; conv => whnf)
    | (with_reducible refine br_or ?_; conv => whnf)
    | (refine br_eq2 ?_; conv => whnf)
    | (refine draw_auto (by decide +kernel) ?_; conv => whnf)
    | (refine draw_asg (by decide +kernel) ?_; conv => whnf)
    | (refine draw_st (by decide +kernel) ?_; conv => whnf)
    | (refine draw_call (by decide +kernel) ?_; conv => whnf)
    | (refine enter_same (loop_n 12 ?_); conv => whnf)
    | (refine next_same ?_; conv => whnf)
    | (refine mapK_row (by assumption) ?_; conv => whnf)
    | (refine mapK_plain (Plain.of rfl) ?_; conv => whnf)
    | (refine mapK_lit ?_; conv => whnf)
    | (refine br_split (fun _ => ?_) (fun _ => ?_) <;> conv => whnf)
    | exact (rfl : (_ : Value) = _)
    | (simp only [*]; exact (rfl : (_ : Value) = _))
    | (simp [*]; done))

theorem c_big_N   : CallOK Try.prog n_laws_big [.slice none 0 0] [] (fun v m_ => v = bb (decide (((0 : Nat) : Int) > 4096)) ∧ m_ = []) := by
  refine callOK_ofF good fn_laws_big ?_
  conv => whnf
  all_goals (repeat' first
    | (show OutK _ _ _ _; exact out_forget [] ⟨rfl, rfl⟩ rfl (okB2_spec rfl) trivial rfl rfl)
    | (refine StoreK.mk rfl ?_; conv => whnf)
    | exact join_same
    | exact (by assumption : (_ : Bool) = (_ : Bool))
    | (refine br_true (by assumption) ?_; conv => whnf)
    | (refine br_false (by assumption) ?_; conv => whnf)
    | (refine br_not ?_; conv => whnf)
    | (refine br_code ?_; conv => whnf)
    | (with_reducible refine br_and ?_; conv => whnf)
    | (with_reducible refine br_or ?_; conv => whnf)
    | (refine br_eq2 ?_; conv => whnf)
    | (refine draw_auto (by decide +kernel) ?_; conv => whnf)
    | (refine draw_asg (by decide +kernel) ?_; conv => whnf)
    | (refine draw_st (by decide +kernel) ?_; conv => whnf)
    | (refine draw_call (by decide +kernel) ?_; conv => whnf)
    | (refine enter_same (loop_n 12 ?_); conv => whnf)
    | (refine next_same ?_; conv => whnf)
    | (refine mapK_row (by assumption) ?_; conv => whnf)
    | (refine mapK_plain (Plain.of rfl) ?_; conv => whnf)
    | (refine mapK_lit ?_; conv => whnf)
    | (refine br_split (fun _ => ?_) (fun _ => ?_) <;> conv => whnf)
    | exact (rfl : (_ : Value) = _)
    | (simp only [*]; exact (rfl : (_ : Value) = _))
    | (simp [*]; done))

attribute [local irreducible] cnE cnV emV vlV dsE dsV isTetF

set_option maxHeartbeats 4000000 in
theorem c_fn_FnTetras_L {zs : List Int} {off n c : Nat} (hz : n ≤ zs.length) (hb : ∀ z ∈ zs, IsByte z) (hn : n ≤ 4096) : CallOK Try.prog n_laws_FnTetras [.slice (some ⟨0, off, none⟩) n c] [(away off (bl zs), none)] (fun v m_ => v = bb true ∧ m_ = [(away off (bl zs), none)]) := by
  refine callOK_ofF good fn_laws_FnTetras ?_
  conv => whnf
  all_goals (repeat' first
    | (refine CallOK.useR c_big_L [0] rfl rfl rfl ⟨⟨⟨_, rfl, .lit (away_conc (bl_plain _) _).symm (fun _ h_ => by cases h_) (away_ok (bl_plain _) _)⟩⟩, trivial⟩ (fun v_ mem_ hR => ?_); obtain ⟨rfl, rfl⟩ := hR; refine ⟨rfl, ?_⟩; conv => whnf)
    | (refine br_false (b := decide (((n : Nat) : Int) > 4096)) (decide_eq_false ?_) ?_; (focus omega); conv => whnf)
    | (refine CallOK.useR (c_DrawCountSpots_L hz hb hn) [0] rfl rfl rfl ⟨⟨⟨_, rfl, .lit (away_conc (bl_plain _) _).symm (fun _ h_ => by cases h_) (away_ok (bl_plain _) _)⟩⟩, trivial⟩ (fun v_ mem_ hR => ?_); obtain ⟨t0_, t1_, t2_, t3_, t4_, t5_, t6_, t7_, t8_, t9_, t10_, t11_, rfl, rfl⟩ := hR; refine ⟨rfl, ?_⟩; conv => whnf)
    | (refine CallOK.useR (c_DrawIsEmptyTetra_L hz hb hn) [0] rfl rfl rfl ⟨⟨⟨_, rfl, .lit (away_conc (bl_plain _) _).symm (fun _ h_ => by cases h_) (away_ok (bl_plain _) _)⟩⟩, trivial⟩ (fun v_ mem_ hR => ?_); obtain ⟨u0_, u1_, u2_, u3_, u4_, u5_, u6_, u7_, u8_, u9_, u10_, u11_, rfl, rfl⟩ := hR; refine ⟨rfl, ?_⟩; conv => whnf)
    | (refine CallOK.useR (c_DrawVolumeOf_L hz hb hn) [0] rfl rfl rfl ⟨⟨⟨_, rfl, .lit (away_conc (bl_plain _) _).symm (fun _ h_ => by cases h_) (away_ok (bl_plain _) _)⟩⟩, trivial⟩ (fun v_ mem_ hR => ?_); obtain ⟨w0_, w1_, w2_, w3_, w4_, w5_, w6_, w7_, w8_, w9_, w10_, w11_, rfl, rfl⟩ := hR; refine ⟨rfl, ?_⟩; conv => whnf)
    | (refine CallOK.useR (c_DrawDistanceOfSpot_L hz hb hn) [0] rfl rfl rfl ⟨⟨⟨_, rfl, .lit (away_conc (bl_plain _) _).symm (fun _ h_ => by cases h_) (away_ok (bl_plain _) _)⟩⟩, trivial⟩ (fun v_ mem_ hR => ?_); obtain ⟨x0_, x1_, x2_, x3_, x4_, x5_, x6_, x7_, x8_, x9_, x10_, x11_, rfl, rfl⟩ := hR; refine ⟨rfl, ?_⟩; conv => whnf)
    | (show OutK _ _ _ _; exact out_forget [] ⟨rfl, rfl⟩ rfl (okB2_spec rfl) ⟨⟨⟨_, rfl, .lit (away_conc (bl_plain _) _).symm rfl (away_ok (bl_plain _) _)⟩⟩, trivial⟩ rfl rfl)
    | (refine br_false (ds1 ?_ ?_) ?_; (focus assumption); (focus assumption); conv => whnf)
    | (refine br_true (ds2 ?_ ?_) ?_; (focus assumption); (focus assumption); conv => whnf)
    | (refine br_true (ds3 ?_ ?_) ?_; (focus assumption); (focus assumption); conv => whnf)
    | (refine br_true (em1 ?_) ?_; (focus assumption); conv => whnf)
    | (refine br_false (vl1 ?_) ?_; (focus assumption); conv => whnf)
    | (show OutK _ _ _ _; refine out_forget [] ⟨congrArg Value.bool (cn1 ?_), rfl⟩ rfl (okB2_spec rfl) ⟨⟨⟨_, rfl, .lit (away_conc (bl_plain _) _).symm rfl (away_ok (bl_plain _) _)⟩⟩, trivial⟩ rfl rfl; assumption)
    | (refine br_true ?_ ?_; (focus (simp; done)); conv => whnf)
    | (refine br_false ?_ ?_; (focus (simp; done)); conv => whnf)
    | (show OutK _ _ _ _; exact out_forget [] ⟨rfl, rfl⟩ rfl (okB2_spec rfl) ⟨⟨⟨_, rfl, .lit (away_conc (bl_plain _) _).symm rfl (away_ok (bl_plain _) _)⟩⟩, trivial⟩ rfl rfl)
    | (refine StoreK.mk rfl ?_; conv => whnf)
    | exact join_same
    | exact (by assumption : (_ : Bool) = (_ : Bool))
    | (refine br_true (by assumption) ?_; conv => whnf)
    | (refine br_false (by assumption) ?_; conv => whnf)
    | (refine br_not ?_; conv => whnf)
    | (refine br_code ?_; conv => whnf)
    | (with_reducible refine br_and ?_; conv => whnf)
    | (with_reducible refine br_or ?_; conv => whnf)
    | (refine br_eq2 ?_; conv => whnf)
    | (refine c_impl_CountSpots_all.call ?_; conv => whnf)
    | (refine c_impl_CountSpots_all.quiet ?_; conv => whnf)
    | (refine c_spec_CountSpots_all.call ?_; conv => whnf)
    | (refine c_spec_CountSpots_all.quiet ?_; conv => whnf)
    | (refine c_impl_IsTetra.call ?_; conv => whnf)
    | (refine c_impl_IsTetra.quiet ?_; conv => whnf)
    | (refine c_spec_IsTetra.call ?_; conv => whnf)
    | (refine c_spec_IsTetra.quiet ?_; conv => whnf)
    | (refine c_impl_IsEmptyTetra_all.call ?_; conv => whnf)
    | (refine c_impl_IsEmptyTetra_all.quiet ?_; conv => whnf)
    | (refine c_spec_IsEmptyTetra_all.call ?_; conv => whnf)
    | (refine c_spec_IsEmptyTetra_all.quiet ?_; conv => whnf)
    | (refine c_impl_VolumeOf.call ?_; conv => whnf)
    | (refine c_impl_VolumeOf.quiet ?_; conv => whnf)
    | (refine c_spec_VolumeOf.call ?_; conv => whnf)
    | (refine c_spec_VolumeOf.quiet ?_; conv => whnf)
    | (refine c_impl_Dist_all.call ?_; conv => whnf)
    | (refine c_impl_Dist_all.quiet ?_; conv => whnf)
    | (refine c_spec_Dist_all.call ?_; conv => whnf)
    | (refine c_spec_Dist_all.quiet ?_; conv => whnf)
    | (refine draw_auto (by decide +kernel) ?_; conv => whnf)
    | (refine draw_asg (by decide +kernel) ?_; conv => whnf)
    | (refine draw_st (by decide +kernel) ?_; conv => whnf)
    | (refine draw_call (by decide +kernel) ?_; conv => whnf)
    | (refine enter_same (loop_n 12 ?_); conv => whnf)
    | (refine next_same ?_; conv => whnf)
    | (refine mapK_row (by assumption) ?_; conv => whnf)
    | (refine mapK_plain (Plain.of rfl) ?_; conv => whnf)
    | (refine mapK_lit ?_; conv => whnf)
    | (refine br_split (fun _ => ?_) (fun _ => ?_) <;> conv => whnf)
    | exact (rfl : (_ : Value) = _)
    | (simp only [*]; exact (rfl : (_ : Value) = _))
    | (simp [*]; done))

theorem c_fn_FnTetras_B {zs : List Int} {off n c : Nat} (hn : ¬ n ≤ 4096) : CallOK Try.prog n_laws_FnTetras [.slice (some ⟨0, off, none⟩) n c] [(away off (bl zs), none)] (fun v m_ => v = bb true ∧ m_ = [(away off (bl zs), none)]) := by
  refine callOK_ofF good fn_laws_FnTetras ?_
  conv => whnf
  all_goals (repeat' first
    | (refine CallOK.useR c_big_L [0] rfl rfl rfl ⟨⟨⟨_, rfl, .lit (away_conc (bl_plain _) _).symm (fun _ h_ => by cases h_) (away_ok (bl_plain _) _)⟩⟩, trivial⟩ (fun v_ mem_ hR => ?_); obtain ⟨rfl, rfl⟩ := hR; refine ⟨rfl, ?_⟩; conv => whnf)
    | (refine br_true (b := decide (((n : Nat) : Int) > 4096)) (decide_eq_true ?_) ?_; (focus omega); conv => whnf)
    | (show OutK _ _ _ _; exact out_forget [] ⟨rfl, rfl⟩ rfl (okB2_spec rfl) ⟨⟨⟨_, rfl, .lit (away_conc (bl_plain _) _).symm rfl (away_ok (bl_plain _) _)⟩⟩, trivial⟩ rfl rfl)
    | (refine StoreK.mk rfl ?_; conv => whnf)
    | exact join_same
    | exact (by assumption : (_ : Bool) = (_ : Bool))
    | (refine br_true (by assumption) ?_; conv => whnf)
    | (refine br_false (by assumption) ?_; conv => whnf)
    | (refine br_not ?_; conv => whnf)
    | (refine br_code ?_; conv => whnf)
    | (with_reducible refine br_and ?_; conv => whnf)
    | (with_reducible refine br_or ?_; conv => whnf)
    | (refine br_eq2 ?_; conv => whnf)
    | (refine c_impl_CountSpots_all.call ?_; conv => whnf)
    | (refine c_impl_CountSpots_all.quiet ?_; conv => whnf)
    | (refine c_spec_CountSpots_all.call ?_; conv => whnf)
    | (refine c_spec_CountSpots_all.quiet ?_; conv => whnf)
    | (refine c_impl_IsTetra.call ?_; conv => whnf)
    | (refine c_impl_IsTetra.quiet ?_; conv => whnf)
    | (refine c_spec_IsTetra.call ?_; conv => whnf)
    | (refine c_spec_IsTetra.quiet ?_; conv => whnf)
    | (refine c_impl_IsEmptyTetra_all.call ?_; conv => whnf)
    | (refine c_impl_IsEmptyTetra_all.quiet ?_; conv => whnf)
    | (refine c_spec_IsEmptyTetra_all.call ?_; conv => whnf)
    | (refine c_spec_IsEmptyTetra_all.quiet ?_; conv => whnf)
    | (refine c_impl_VolumeOf.call ?_; conv => whnf)
    | (refine c_impl_VolumeOf.quiet ?_; conv => whnf)
    | (refine c_spec_VolumeOf.call ?_; conv => whnf)
    | (refine c_spec_VolumeOf.quiet ?_; conv => whnf)
    | (refine c_impl_Dist_all.call ?_; conv => whnf)
    | (refine c_impl_Dist_all.quiet ?_; conv => whnf)
    | (refine c_spec_Dist_all.call ?_; conv => whnf)
    | (refine c_spec_Dist_all.quiet ?_; conv => whnf)
    | (refine draw_auto (by decide +kernel) ?_; conv => whnf)
    | (refine draw_asg (by decide +kernel) ?_; conv => whnf)
    | (refine draw_st (by decide +kernel) ?_; conv => whnf)
    | (refine draw_call (by decide +kernel) ?_; conv => whnf)
    | (refine enter_same (loop_n 12 ?_); conv => whnf)
    | (refine next_same ?_; conv => whnf)
    | (refine mapK_row (by assumption) ?_; conv => whnf)
    | (refine mapK_plain (Plain.of rfl) ?_; conv => whnf)
    | (refine mapK_lit ?_; conv => whnf)
    | (refine br_split (fun _ => ?_) (fun _ => ?_) <;> conv => whnf)
    | exact (rfl : (_ : Value) = _)
    | (simp only [*]; exact (rfl : (_ : Value) = _))
    | (simp [*]; done))

set_option maxHeartbeats 4000000 in
theorem c_fn_FnTetras_N   : CallOK Try.prog n_laws_FnTetras [.slice none 0 0] [] (fun v m_ => v = bb true ∧ m_ = []) := by
  refine callOK_ofF good fn_laws_FnTetras ?_
  conv => whnf
  all_goals (repeat' first
    | (refine CallOK.useR c_big_N [] rfl rfl rfl trivial (fun v_ mem_ hR => ?_); obtain ⟨rfl, rfl⟩ := hR; refine ⟨rfl, ?_⟩; conv => whnf)
    | (refine br_false (b := decide (((0 : Nat) : Int) > 4096)) (decide_eq_false ?_) ?_; (focus omega); conv => whnf)
    | (refine CallOK.useR (c_DrawCountSpots_N) [] rfl rfl rfl trivial (fun v_ mem_ hR => ?_); obtain ⟨t0_, t1_, t2_, t3_, t4_, t5_, t6_, t7_, t8_, t9_, t10_, t11_, rfl, rfl⟩ := hR; refine ⟨rfl, ?_⟩; conv => whnf)
    | (refine CallOK.useR (c_DrawIsEmptyTetra_N) [] rfl rfl rfl trivial (fun v_ mem_ hR => ?_); obtain ⟨u0_, u1_, u2_, u3_, u4_, u5_, u6_, u7_, u8_, u9_, u10_, u11_, rfl, rfl⟩ := hR; refine ⟨rfl, ?_⟩; conv => whnf)
    | (refine CallOK.useR (c_DrawVolumeOf_N) [] rfl rfl rfl trivial (fun v_ mem_ hR => ?_); obtain ⟨w0_, w1_, w2_, w3_, w4_, w5_, w6_, w7_, w8_, w9_, w10_, w11_, rfl, rfl⟩ := hR; refine ⟨rfl, ?_⟩; conv => whnf)
    | (refine CallOK.useR (c_DrawDistanceOfSpot_N) [] rfl rfl rfl trivial (fun v_ mem_ hR => ?_); obtain ⟨x0_, x1_, x2_, x3_, x4_, x5_, x6_, x7_, x8_, x9_, x10_, x11_, rfl, rfl⟩ := hR; refine ⟨rfl, ?_⟩; conv => whnf)
    | (show OutK _ _ _ _; exact out_forget [] ⟨rfl, rfl⟩ rfl (okB2_spec rfl) trivial rfl rfl)
    | (refine br_false (ds1 ?_ ?_) ?_; (focus assumption); (focus assumption); conv => whnf)
    | (refine br_true (ds2 ?_ ?_) ?_; (focus assumption); (focus assumption); conv => whnf)
    | (refine br_true (ds3 ?_ ?_) ?_; (focus assumption); (focus assumption); conv => whnf)
    | (refine br_true (em1 ?_) ?_; (focus assumption); conv => whnf)
    | (refine br_false (vl1 ?_) ?_; (focus assumption); conv => whnf)
    | (show OutK _ _ _ _; refine out_forget [] ⟨congrArg Value.bool (cn1 ?_), rfl⟩ rfl (okB2_spec rfl) trivial rfl rfl; assumption)
    | (refine br_true ?_ ?_; (focus (simp; done)); conv => whnf)
    | (refine br_false ?_ ?_; (focus (simp; done)); conv => whnf)
    | (show OutK _ _ _ _; exact out_forget [] ⟨rfl, rfl⟩ rfl (okB2_spec rfl) trivial rfl rfl)
    | (refine StoreK.mk rfl ?_; conv => whnf)
    | exact join_same
    | exact (by assumption : (_ : Bool) = (_ : Bool))
    | (refine br_true (by assumption) ?_; conv => whnf)
    | (refine br_false (by assumption) ?_; conv => whnf)
    | (refine br_not ?_; conv => whnf)
    | (refine br_code ?_; conv => whnf)
    | (with_reducible refine br_and ?_; conv => whnf)
    | (with_reducible refine br_or ?_; conv => whnf)
    | (refine br_eq2 ?_; conv => whnf)
    | (refine c_impl_CountSpots_all.call ?_; conv => whnf)
    | (refine c_impl_CountSpots_all.quiet ?_; conv => whnf)
    | (refine c_spec_CountSpots_all.call ?_; conv => whnf)
    | (refine c_spec_CountSpots_all.quiet ?_; conv => whnf)
    | (refine c_impl_IsTetra.call ?_; conv => whnf)
    | (refine c_impl_IsTetra.quiet ?_; conv => whnf)
    | (refine c_spec_IsTetra.call ?_; conv => whnf)
    | (refine c_spec_IsTetra.quiet ?_; conv => whnf)
    | (refine c_impl_IsEmptyTetra_all.call ?_; conv => whnf)
    | (refine c_impl_IsEmptyTetra_all.quiet ?_; conv => whnf)
    | (refine c_spec_IsEmptyTetra_all.call ?_; conv => whnf)
    | (refine c_spec_IsEmptyTetra_all.quiet ?_; conv => whnf)
    | (refine c_impl_VolumeOf.call ?_; conv => whnf)
    | (refine c_impl_VolumeOf.quiet ?_; conv => whnf)
    | (refine c_spec_VolumeOf.call ?_; conv => whnf)
    | (refine c_spec_VolumeOf.quiet ?_; conv => whnf)
    | (refine c_impl_Dist_all.call ?_; conv => whnf)
    | (refine c_impl_Dist_all.quiet ?_; conv => whnf)
    | (refine c_spec_Dist_all.call ?_; conv => whnf)
    | (refine c_spec_Dist_all.quiet ?_; conv => whnf)
    | (refine draw_auto (by decide +kernel) ?_; conv => whnf)
    | (refine draw_asg (by decide +kernel) ?_; conv => whnf)
    | (refine draw_st (by decide +kernel) ?_; conv => whnf)
    | (refine draw_call (by decide +kernel) ?_; conv => whnf)
    | (refine enter_same (loop_n 12 ?_); conv => whnf)
    | (refine next_same ?_; conv => whnf)
    | (refine mapK_row (by assumption) ?_; conv => whnf)
    | (refine mapK_plain (Plain.of rfl) ?_; conv => whnf)
    | (refine mapK_lit ?_; conv => whnf)
    | (refine br_split (fun _ => ?_) (fun _ => ?_) <;> conv => whnf)
    | exact (rfl : (_ : Value) = _)
    | (simp only [*]; exact (rfl : (_ : Value) = _))
    | (simp [*]; done))

theorem c_laws_FnTetras_list {zs : List Int} {off n c : Nat} (hz : n ≤ zs.length) (hb : ∀ z ∈ zs, IsByte z) : CallOK Try.prog n_laws_FnTetras [.slice (some ⟨0, off, none⟩) n c] [(away off (bl zs), none)] (fun v m_ => v = bb true ∧ m_ = [(away off (bl zs), none)]) := by
  by_cases hn : n ≤ 4096
  · exact c_fn_FnTetras_L hz hb hn
  · exact c_fn_FnTetras_B hn
theorem c_laws_FnTetras_nil : CallOK Try.prog n_laws_FnTetras [.slice none 0 0] [] (fun v m_ => v = bb true ∧ m_ = []) := c_fn_FnTetras_N

end Go.Proofs.Ytndmkibdcfpddaa
