/-
  Contracts of functions of the program (printed by a program of this work; Lean checks each).
  Conditions: as each contract states.
-/
import Derived.Test.YtndmkibdcfpddaaGreatK50
namespace Go.Proofs.YtndmkibdcfpddaaGreat
open Go.Ev Go.RowKit
set_option maxRecDepth 100000
set_option linter.unusedVariables false
set_option linter.unusedSimpArgs false

theorem c_big_L {zs : List Int} {off n c : Nat}  : CallOK Tryz.prog n_laws_big [.slice (some ⟨0, off, none⟩) n c] [(away off (bl zs), none)] (fun v m_ => v = bb (decide (((n : Nat) : Int) > 4096)) ∧ m_ = [(away off (bl zs), none)]) := by
  refine callOK_ofF good fn_laws_big ?_
  conv => whnf
  all_goals (repeat' first | (show OutK _ _ _ _; exact out_forget [] ⟨rfl, rfl⟩ rfl (okB2_spec rfl) ⟨⟨⟨_, rfl, .lit (away_conc (bl_plain _) _).symm rfl (away_ok (bl_plain _) _)⟩⟩, trivial⟩ rfl rfl) | (refine StoreK.mk rfl ?_; conv => whnf) | exact join_same | exact (by assumption : (_ : Bool) = (_ : Bool)) | (refine br_true (by assumption) ?_; conv => whnf) | (refine br_false (by assumption) ?_; conv => whnf) | (refine br_not ?_; conv => whnf) | (refine br_code ?_; conv => whnf) | (with_reducible refine br_and ?_; conv => whnf) | (with_reducible refine br_or ?_; conv => whnf) | (refine br_eq2 ?_; conv => whnf) | (refine draw_auto (by decide +kernel) ?_; conv => whnf) | (refine draw_asg (by decide +kernel) ?_; conv => whnf) | (refine draw_st (by decide +kernel) ?_; conv => whnf) | (refine draw_call (by decide +kernel) ?_; conv => whnf) | (refine enter_same (loop_n 12 ?_); conv => whnf) | (refine next_same ?_; conv => whnf) | (refine mapK_row (by assumption) ?_; conv => whnf) | (refine mapK_plain (Plain.of rfl) ?_; conv => whnf) | (refine mapK_lit ?_; conv => whnf) | (refine br_split (fun _ => ?_) (fun _ => ?_) <;> conv => whnf) | exact (rfl : (_ : Value) = _) | (simp only [*]; exact (rfl : (_ : Value) = _)) | (simp [*]; done))

theorem c_big_N   : CallOK Tryz.prog n_laws_big [.slice none 0 0] [] (fun v m_ => v = bb (decide (((0 : Nat) : Int) > 4096)) ∧ m_ = []) := by
  refine callOK_ofF good fn_laws_big ?_
  conv => whnf
  all_goals (repeat' first | (show OutK _ _ _ _; exact out_forget [] ⟨rfl, rfl⟩ rfl (okB2_spec rfl) trivial rfl rfl) | (refine StoreK.mk rfl ?_; conv => whnf) | exact join_same | exact (by assumption : (_ : Bool) = (_ : Bool)) | (refine br_true (by assumption) ?_; conv => whnf) | (refine br_false (by assumption) ?_; conv => whnf) | (refine br_not ?_; conv => whnf) | (refine br_code ?_; conv => whnf) | (with_reducible refine br_and ?_; conv => whnf) | (with_reducible refine br_or ?_; conv => whnf) | (refine br_eq2 ?_; conv => whnf) | (refine draw_auto (by decide +kernel) ?_; conv => whnf) | (refine draw_asg (by decide +kernel) ?_; conv => whnf) | (refine draw_st (by decide +kernel) ?_; conv => whnf) | (refine draw_call (by decide +kernel) ?_; conv => whnf) | (refine enter_same (loop_n 12 ?_); conv => whnf) | (refine next_same ?_; conv => whnf) | (refine mapK_row (by assumption) ?_; conv => whnf) | (refine mapK_plain (Plain.of rfl) ?_; conv => whnf) | (refine mapK_lit ?_; conv => whnf) | (refine br_split (fun _ => ?_) (fun _ => ?_) <;> conv => whnf) | exact (rfl : (_ : Value) = _) | (simp only [*]; exact (rfl : (_ : Value) = _)) | (simp [*]; done))

end Go.Proofs.YtndmkibdcfpddaaGreat
