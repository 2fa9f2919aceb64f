/-
  Several texts of this work in one (a claim holds at most 60 files).
  Conditions: as each contract states.
-/
import Derived.Test.YtlkbfpklhncfbaaGreatDoorKM1
import Derived.Test.YtlkbfpklhncfbaaGreatDoorKM2
import Derived.Test.YtlkbfpklhncfbaaGreatDoorKM4
import Derived.Test.YtlkbfpklhncfbaaGreatDoorEvMake
import Derived.RangeFuncNested
import Derived.RangeFuncBound
import Derived.RangeFuncCalls
import Derived.RangeFuncLeaves
import Derived.RangeFuncBox
import Derived.Shelf.Abstract
import Derived.Shelf.RegionOpen
import Derived.WalkKit
import Derived.OwnWalkIn
import Derived.TacticsInMore
import Derived.LoopNIn
import Derived.LoopIn
import Derived.Lib.Builder
section
/-
  Contracts of functions of the program (printed by a program of this work; Lean checks each).
  Conditions: as each contract states.
-/
namespace Go.Proofs.YtlkbfpklhncfbaaGreatDoor
open Go.Ev Go.RowKit
set_option maxRecDepth 100000
set_option linter.unusedVariables false
set_option linter.unusedSimpArgs false

attribute [local irreducible] isPtF Lib.itoa ptxt ltxt badP detF isCoordF

theorem c_code_ok {Q : List (Int × Int)} {sp : List Value} {n c : Nat} (h1 : Row (pl Q) sp n c 2) (hn : n ≤ 1048576) (hb : Q.any badP = false) : CallOK Tryz.prog n_spec_l01Code [.slice (some ⟨0, 0, none⟩) n c] [(pl Q ++ sp, none)] (fun v m_ => v = ii 0 ∧ m_ = [(pl Q ++ sp, none)]) :=
  (c_code_pts h1 hn).mono_ fun v m hR => by rw [if_neg (by rw [hb]; exact Bool.false_ne_true)] at hR; exact hR
theorem c_code_no {Q : List (Int × Int)} {sp : List Value} {n c : Nat} (h1 : Row (pl Q) sp n c 2) (hn : n ≤ 1048576) (hb : Q.any badP = true) : CallOK Tryz.prog n_spec_l01Code [.slice (some ⟨0, 0, none⟩) n c] [(pl Q ++ sp, none)] (fun v m_ => v = ii 1 ∧ m_ = [(pl Q ++ sp, none)]) :=
  (c_code_pts h1 hn).mono_ fun v m hR => by rw [if_pos hb] at hR; exact hR

theorem c_impl_PointsText_ok {Q : List (Int × Int)} {sp : List Value} {n c : Nat} (h1 : Row (pl Q) sp n c 2) (hn : n ≤ 1048576) (hb : Q.any badP = false) (h100 : n ≤ 100) : CallOK Tryz.prog n_impl_PointsText [.slice (some ⟨0, 0, none⟩) n c] [(pl Q ++ sp, none)] (fun v m_ => v = t2 (bStr (ltxt Q)) (ii 0) ∧ m_ = [(pl Q ++ sp, none)]) := by
  refine callOK_ofF good fn_impl_PointsText ?_
  conv => whnf
  all_goals (repeat' first
    | (refine CallOK.useR (c_points_pts h1 hn) [_] rfl rfl rfl ⟨⟨⟨_, rfl, .plain rfl (fun _ h_ => by cases h_) (Row.all h1)⟩⟩, trivial⟩ (fun v_ mem_ hR => ?_); obtain ⟨rfl, rfl⟩ := hR; refine ⟨rfl, ?_⟩; conv => whnf)
    | (refine br_false (b := !(!(Q.any badP))) (by rw [hb]; rfl) ?_; conv => whnf)
    | (refine br_false (b := decide (((n : Nat) : Int) > 100)) (decide_eq_false (by omega)) ?_; conv => whnf)
    | (refine CallOK.useR (c_texts h1 hn hb h100) [_] rfl rfl rfl ⟨⟨⟨_, rfl, .plain rfl (fun _ h_ => by cases h_) (Row.all h1)⟩⟩, trivial⟩ (fun v_ mem_ hR => ?_); obtain ⟨rfl, rfl⟩ := hR; refine ⟨rfl, ?_⟩; conv => whnf)
    | (exact out_forget [] ⟨rfl, rfl⟩ rfl (okB2_spec rfl) ⟨⟨⟨_, rfl, .plain rfl rfl (Row.all h1)⟩⟩, trivial⟩ rfl rfl)
    | (refine StoreK.mk rfl ?_; conv => whnf)
    | exact join_same
    | exact (by assumption : (_ : Bool) = (_ : Bool))
    | (refine br_true (by assumption) ?_; conv => whnf)
    | (refine br_false (by assumption) ?_; conv => whnf)
    | (refine br_not ?_; conv => whnf)
    | (refine br_code ?_; conv => whnf)
    | (with_reducible refine br_and ?_; conv => whnf)
    | (with_reducible refine br_or ?_; conv => whnf)
    | (refine br_eq2 ?_; conv => whnf)
    | (refine draw_auto (by decide +kernel) ?_; conv => whnf)
    | (refine draw_asg (by decide +kernel) ?_; conv => whnf)
    | (refine draw_st (by decide +kernel) ?_; conv => whnf)
    | (refine draw_call (by decide +kernel) ?_; conv => whnf)
    | (refine enter_same (loop_n 12 ?_); conv => whnf)
    | (refine next_same ?_; conv => whnf)
    | (refine mapK_row (by assumption) ?_; conv => whnf)
    | (refine mapK_plain (Plain.of rfl) ?_; conv => whnf)
    | (refine mapK_lit ?_; conv => whnf)
    | (refine br_split (fun _ => ?_) (fun _ => ?_) <;> conv => whnf)
    | exact (rfl : (_ : Value) = _)
    | (simp only [*]; exact (rfl : (_ : Value) = _))
    | (simp [*]; done))

theorem c_l01Points_ok {Q : List (Int × Int)} {sp : List Value} {n c : Nat} (h1 : Row (pl Q) sp n c 2) (hn : n ≤ 1048576) (hb : Q.any badP = false) (h100 : n ≤ 100) : CallOK Tryz.prog n_spec_l01Points [.slice (some ⟨0, 0, none⟩) n c] [(pl Q ++ sp, none)] (fun v m_ => v = ii 0 ∧ m_ = [(pl Q ++ sp, none)]) := by
  refine callOK_ofF good fn_spec_l01Points ?_
  conv => whnf
  all_goals (repeat' first
    | (refine CallOK.useR (c_code_ok h1 hn hb) [_] rfl rfl rfl ⟨⟨⟨_, rfl, .plain rfl (fun _ h_ => by cases h_) (Row.all h1)⟩⟩, trivial⟩ (fun v_ mem_ hR => ?_); obtain ⟨rfl, rfl⟩ := hR; refine ⟨rfl, ?_⟩; conv => whnf)
    | (refine br_false (b := decide (((n : Nat) : Int) > 100)) (decide_eq_false (by omega)) ?_; conv => whnf)
    | (exact out_forget [] ⟨rfl, rfl⟩ rfl (okB2_spec rfl) ⟨⟨⟨_, rfl, .plain rfl rfl (Row.all h1)⟩⟩, trivial⟩ rfl rfl)
    | (refine StoreK.mk rfl ?_; conv => whnf)
    | exact join_same
    | exact (by assumption : (_ : Bool) = (_ : Bool))
    | (refine br_true (by assumption) ?_; conv => whnf)
    | (refine br_false (by assumption) ?_; conv => whnf)
    | (refine br_not ?_; conv => whnf)
    | (refine br_code ?_; conv => whnf)
    | (with_reducible refine br_and ?_; conv => whnf)
    | (with_reducible refine br_or ?_; conv => whnf)
    | (refine br_eq2 ?_; conv => whnf)
    | (refine draw_auto (by decide +kernel) ?_; conv => whnf)
    | (refine draw_asg (by decide +kernel) ?_; conv => whnf)
    | (refine draw_st (by decide +kernel) ?_; conv => whnf)
    | (refine draw_call (by decide +kernel) ?_; conv => whnf)
    | (refine enter_same (loop_n 12 ?_); conv => whnf)
    | (refine next_same ?_; conv => whnf)
    | (refine mapK_row (by assumption) ?_; conv => whnf)
    | (refine mapK_plain (Plain.of rfl) ?_; conv => whnf)
    | (refine mapK_lit ?_; conv => whnf)
    | (refine br_split (fun _ => ?_) (fun _ => ?_) <;> conv => whnf)
    | exact (rfl : (_ : Value) = _)
    | (simp only [*]; exact (rfl : (_ : Value) = _))
    | (simp [*]; done))

theorem c_spec_PointsText_ok {Q : List (Int × Int)} {sp : List Value} {n c : Nat} (h1 : Row (pl Q) sp n c 2) (hn : n ≤ 1048576) (hb : Q.any badP = false) (h100 : n ≤ 100) : CallOK Tryz.prog n_spec_PointsText [.slice (some ⟨0, 0, none⟩) n c] [(pl Q ++ sp, none)] (fun v m_ => v = t2 (bStr (ltxt Q)) (ii 0) ∧ m_ = [(pl Q ++ sp, none)]) := by
  refine callOK_ofF good fn_spec_PointsText ?_
  conv => whnf
  all_goals (repeat' first
    | (refine CallOK.useR (c_l01Points_ok h1 hn hb h100) [_] rfl rfl rfl ⟨⟨⟨_, rfl, .plain rfl (fun _ h_ => by cases h_) (Row.all h1)⟩⟩, trivial⟩ (fun v_ mem_ hR => ?_); obtain ⟨rfl, rfl⟩ := hR; refine ⟨rfl, ?_⟩; conv => whnf)
    | (refine CallOK.useR (c_ListText h1 hn hb h100) [_] rfl rfl rfl ⟨⟨⟨_, rfl, .plain rfl (fun _ h_ => by cases h_) (Row.all h1)⟩⟩, trivial⟩ (fun v_ mem_ hR => ?_); obtain ⟨rfl, rfl⟩ := hR; refine ⟨rfl, ?_⟩; conv => whnf)
    | (exact out_forget [] ⟨rfl, rfl⟩ rfl (okB2_spec rfl) ⟨⟨⟨_, rfl, .plain rfl rfl (Row.all h1)⟩⟩, trivial⟩ rfl rfl)
    | (refine StoreK.mk rfl ?_; conv => whnf)
    | exact join_same
    | exact (by assumption : (_ : Bool) = (_ : Bool))
    | (refine br_true (by assumption) ?_; conv => whnf)
    | (refine br_false (by assumption) ?_; conv => whnf)
    | (refine br_not ?_; conv => whnf)
    | (refine br_code ?_; conv => whnf)
    | (with_reducible refine br_and ?_; conv => whnf)
    | (with_reducible refine br_or ?_; conv => whnf)
    | (refine br_eq2 ?_; conv => whnf)
    | (refine draw_auto (by decide +kernel) ?_; conv => whnf)
    | (refine draw_asg (by decide +kernel) ?_; conv => whnf)
    | (refine draw_st (by decide +kernel) ?_; conv => whnf)
    | (refine draw_call (by decide +kernel) ?_; conv => whnf)
    | (refine enter_same (loop_n 12 ?_); conv => whnf)
    | (refine next_same ?_; conv => whnf)
    | (refine mapK_row (by assumption) ?_; conv => whnf)
    | (refine mapK_plain (Plain.of rfl) ?_; conv => whnf)
    | (refine mapK_lit ?_; conv => whnf)
    | (refine br_split (fun _ => ?_) (fun _ => ?_) <;> conv => whnf)
    | exact (rfl : (_ : Value) = _)
    | (simp only [*]; exact (rfl : (_ : Value) = _))
    | (simp [*]; done))

theorem c_impl_PointsText_no {Q : List (Int × Int)} {sp : List Value} {n c : Nat} (h1 : Row (pl Q) sp n c 2) (hn : n ≤ 1048576) (hb : Q.any badP = true) : CallOK Tryz.prog n_impl_PointsText [.slice (some ⟨0, 0, none⟩) n c] [(pl Q ++ sp, none)] (fun v m_ => v = t2 (.string ⟨#[]⟩) (ii 1) ∧ m_ = [(pl Q ++ sp, none)]) := by
  refine callOK_ofF good fn_impl_PointsText ?_
  conv => whnf
  all_goals (repeat' first
    | (refine CallOK.useR (c_points_pts h1 hn) [_] rfl rfl rfl ⟨⟨⟨_, rfl, .plain rfl (fun _ h_ => by cases h_) (Row.all h1)⟩⟩, trivial⟩ (fun v_ mem_ hR => ?_); obtain ⟨rfl, rfl⟩ := hR; refine ⟨rfl, ?_⟩; conv => whnf)
    | (refine br_true (b := !(!(Q.any badP))) (by rw [hb]; rfl) ?_; conv => whnf)
    | (refine br_false (b := decide (((n : Nat) : Int) > 100)) (decide_eq_false (by omega)) ?_; conv => whnf)
    | (exact out_forget [] ⟨rfl, rfl⟩ rfl (okB2_spec rfl) ⟨⟨⟨_, rfl, .plain rfl rfl (Row.all h1)⟩⟩, trivial⟩ rfl rfl)
    | (refine StoreK.mk rfl ?_; conv => whnf)
    | exact join_same
    | exact (by assumption : (_ : Bool) = (_ : Bool))
    | (refine br_true (by assumption) ?_; conv => whnf)
    | (refine br_false (by assumption) ?_; conv => whnf)
    | (refine br_not ?_; conv => whnf)
    | (refine br_code ?_; conv => whnf)
    | (with_reducible refine br_and ?_; conv => whnf)
    | (with_reducible refine br_or ?_; conv => whnf)
    | (refine br_eq2 ?_; conv => whnf)
    | (refine draw_auto (by decide +kernel) ?_; conv => whnf)
    | (refine draw_asg (by decide +kernel) ?_; conv => whnf)
    | (refine draw_st (by decide +kernel) ?_; conv => whnf)
    | (refine draw_call (by decide +kernel) ?_; conv => whnf)
    | (refine enter_same (loop_n 12 ?_); conv => whnf)
    | (refine next_same ?_; conv => whnf)
    | (refine mapK_row (by assumption) ?_; conv => whnf)
    | (refine mapK_plain (Plain.of rfl) ?_; conv => whnf)
    | (refine mapK_lit ?_; conv => whnf)
    | (refine br_split (fun _ => ?_) (fun _ => ?_) <;> conv => whnf)
    | exact (rfl : (_ : Value) = _)
    | (simp only [*]; exact (rfl : (_ : Value) = _))
    | (simp [*]; done))

theorem c_l01Points_no {Q : List (Int × Int)} {sp : List Value} {n c : Nat} (h1 : Row (pl Q) sp n c 2) (hn : n ≤ 1048576) (hb : Q.any badP = true) : CallOK Tryz.prog n_spec_l01Points [.slice (some ⟨0, 0, none⟩) n c] [(pl Q ++ sp, none)] (fun v m_ => v = ii 1 ∧ m_ = [(pl Q ++ sp, none)]) := by
  refine callOK_ofF good fn_spec_l01Points ?_
  conv => whnf
  all_goals (repeat' first
    | (refine CallOK.useR (c_code_no h1 hn hb) [_] rfl rfl rfl ⟨⟨⟨_, rfl, .plain rfl (fun _ h_ => by cases h_) (Row.all h1)⟩⟩, trivial⟩ (fun v_ mem_ hR => ?_); obtain ⟨rfl, rfl⟩ := hR; refine ⟨rfl, ?_⟩; conv => whnf)
    | (refine br_false (b := decide (((n : Nat) : Int) > 100)) (decide_eq_false (by omega)) ?_; conv => whnf)
    | (exact out_forget [] ⟨rfl, rfl⟩ rfl (okB2_spec rfl) ⟨⟨⟨_, rfl, .plain rfl rfl (Row.all h1)⟩⟩, trivial⟩ rfl rfl)
    | (refine StoreK.mk rfl ?_; conv => whnf)
    | exact join_same
    | exact (by assumption : (_ : Bool) = (_ : Bool))
    | (refine br_true (by assumption) ?_; conv => whnf)
    | (refine br_false (by assumption) ?_; conv => whnf)
    | (refine br_not ?_; conv => whnf)
    | (refine br_code ?_; conv => whnf)
    | (with_reducible refine br_and ?_; conv => whnf)
    | (with_reducible refine br_or ?_; conv => whnf)
    | (refine br_eq2 ?_; conv => whnf)
    | (refine draw_auto (by decide +kernel) ?_; conv => whnf)
    | (refine draw_asg (by decide +kernel) ?_; conv => whnf)
    | (refine draw_st (by decide +kernel) ?_; conv => whnf)
    | (refine draw_call (by decide +kernel) ?_; conv => whnf)
    | (refine enter_same (loop_n 12 ?_); conv => whnf)
    | (refine next_same ?_; conv => whnf)
    | (refine mapK_row (by assumption) ?_; conv => whnf)
    | (refine mapK_plain (Plain.of rfl) ?_; conv => whnf)
    | (refine mapK_lit ?_; conv => whnf)
    | (refine br_split (fun _ => ?_) (fun _ => ?_) <;> conv => whnf)
    | exact (rfl : (_ : Value) = _)
    | (simp only [*]; exact (rfl : (_ : Value) = _))
    | (simp [*]; done))

theorem c_spec_PointsText_no {Q : List (Int × Int)} {sp : List Value} {n c : Nat} (h1 : Row (pl Q) sp n c 2) (hn : n ≤ 1048576) (hb : Q.any badP = true) : CallOK Tryz.prog n_spec_PointsText [.slice (some ⟨0, 0, none⟩) n c] [(pl Q ++ sp, none)] (fun v m_ => v = t2 (.string ⟨#[]⟩) (ii 1) ∧ m_ = [(pl Q ++ sp, none)]) := by
  refine callOK_ofF good fn_spec_PointsText ?_
  conv => whnf
  all_goals (repeat' first
    | (refine CallOK.useR (c_l01Points_no h1 hn hb) [_] rfl rfl rfl ⟨⟨⟨_, rfl, .plain rfl (fun _ h_ => by cases h_) (Row.all h1)⟩⟩, trivial⟩ (fun v_ mem_ hR => ?_); obtain ⟨rfl, rfl⟩ := hR; refine ⟨rfl, ?_⟩; conv => whnf)
    | (exact out_forget [] ⟨rfl, rfl⟩ rfl (okB2_spec rfl) ⟨⟨⟨_, rfl, .plain rfl rfl (Row.all h1)⟩⟩, trivial⟩ rfl rfl)
    | (refine StoreK.mk rfl ?_; conv => whnf)
    | exact join_same
    | exact (by assumption : (_ : Bool) = (_ : Bool))
    | (refine br_true (by assumption) ?_; conv => whnf)
    | (refine br_false (by assumption) ?_; conv => whnf)
    | (refine br_not ?_; conv => whnf)
    | (refine br_code ?_; conv => whnf)
    | (with_reducible refine br_and ?_; conv => whnf)
    | (with_reducible refine br_or ?_; conv => whnf)
    | (refine br_eq2 ?_; conv => whnf)
    | (refine draw_auto (by decide +kernel) ?_; conv => whnf)
    | (refine draw_asg (by decide +kernel) ?_; conv => whnf)
    | (refine draw_st (by decide +kernel) ?_; conv => whnf)
    | (refine draw_call (by decide +kernel) ?_; conv => whnf)
    | (refine enter_same (loop_n 12 ?_); conv => whnf)
    | (refine next_same ?_; conv => whnf)
    | (refine mapK_row (by assumption) ?_; conv => whnf)
    | (refine mapK_plain (Plain.of rfl) ?_; conv => whnf)
    | (refine mapK_lit ?_; conv => whnf)
    | (refine br_split (fun _ => ?_) (fun _ => ?_) <;> conv => whnf)
    | exact (rfl : (_ : Value) = _)
    | (simp only [*]; exact (rfl : (_ : Value) = _))
    | (simp [*]; done))

theorem c_impl_Det_all {a b c d : Int}  : Pure Tryz.prog n_impl_DeterminantOf [pt a b, pt c d] (t2 (ii (selF (isPtF a b && isPtF c d) (detF a b c d) 0)) (ii (codeF (isPtF a b && isPtF c d)))) := by
  refine pure_of good fn_impl_DeterminantOf rfl rfl ?_
  conv => whnf
  all_goals (repeat' first
    | (refine StoreK.mk rfl ?_; conv => whnf)
    | exact join_same
    | exact (by assumption : (_ : Bool) = (_ : Bool))
    | (refine br_true (by assumption) ?_; conv => whnf)
    | (refine br_false (by assumption) ?_; conv => whnf)
    | (refine br_not ?_; conv => whnf)
    | (refine br_code ?_; conv => whnf)
    | (with_reducible refine br_and ?_; conv => whnf)
    | (with_reducible refine br_or ?_; conv => whnf)
    | (refine br_eq2 ?_; conv => whnf)
    | (refine c_points_2.call1 rfl rfl ⟨_, rfl⟩ ?_; conv => whnf)
    | (refine c_points_2.quiet1 rfl rfl ⟨_, rfl⟩ ?_; conv => whnf)
    | (refine c_points_3.call1 rfl rfl ⟨_, rfl⟩ ?_; conv => whnf)
    | (refine c_points_3.quiet1 rfl rfl ⟨_, rfl⟩ ?_; conv => whnf)
    | (refine c_points_1.call1 rfl rfl ⟨_, rfl⟩ ?_; conv => whnf)
    | (refine c_points_1.quiet1 rfl rfl ⟨_, rfl⟩ ?_; conv => whnf)
    | (refine c_impl_det.call ?_; conv => whnf)
    | (refine c_impl_det.quiet ?_; conv => whnf)
    | (refine draw_auto (by decide +kernel) ?_; conv => whnf)
    | (refine draw_asg (by decide +kernel) ?_; conv => whnf)
    | (refine draw_st (by decide +kernel) ?_; conv => whnf)
    | (refine draw_call (by decide +kernel) ?_; conv => whnf)
    | (refine enter_same (loop_n 12 ?_); conv => whnf)
    | (refine next_same ?_; conv => whnf)
    | (refine mapK_row (by assumption) ?_; conv => whnf)
    | (refine mapK_plain (Plain.of rfl) ?_; conv => whnf)
    | (refine mapK_lit ?_; conv => whnf)
    | (refine br_split (fun _ => ?_) (fun _ => ?_) <;> conv => whnf)
    | exact (rfl : (_ : Value) = _)
    | (simp only [*]; exact (rfl : (_ : Value) = _))
    | (simp [selF, codeF, *]; done))

theorem c_impl_DetM_all {a b c d : Int}  : Pure Tryz.prog n_impl_DeterminantOfMatrix [q4 a b c d] (t2 (ii (selF (isPtF a b && isPtF c d) (detF a b c d) 0)) (ii (codeF (isPtF a b && isPtF c d)))) := by
  refine pure_of good fn_impl_DeterminantOfMatrix rfl rfl ?_
  conv => whnf
  all_goals (repeat' first
    | (refine StoreK.mk rfl ?_; conv => whnf)
    | exact join_same
    | exact (by assumption : (_ : Bool) = (_ : Bool))
    | (refine br_true (by assumption) ?_; conv => whnf)
    | (refine br_false (by assumption) ?_; conv => whnf)
    | (refine br_not ?_; conv => whnf)
    | (refine br_code ?_; conv => whnf)
    | (with_reducible refine br_and ?_; conv => whnf)
    | (with_reducible refine br_or ?_; conv => whnf)
    | (refine br_eq2 ?_; conv => whnf)
    | (refine c_impl_IsMatrix.call ?_; conv => whnf)
    | (refine c_impl_IsMatrix.quiet ?_; conv => whnf)
    | (refine c_impl_Matrix_det.call ?_; conv => whnf)
    | (refine c_impl_Matrix_det.quiet ?_; conv => whnf)
    | (refine draw_auto (by decide +kernel) ?_; conv => whnf)
    | (refine draw_asg (by decide +kernel) ?_; conv => whnf)
    | (refine draw_st (by decide +kernel) ?_; conv => whnf)
    | (refine draw_call (by decide +kernel) ?_; conv => whnf)
    | (refine enter_same (loop_n 12 ?_); conv => whnf)
    | (refine next_same ?_; conv => whnf)
    | (refine mapK_row (by assumption) ?_; conv => whnf)
    | (refine mapK_plain (Plain.of rfl) ?_; conv => whnf)
    | (refine mapK_lit ?_; conv => whnf)
    | (refine br_split (fun _ => ?_) (fun _ => ?_) <;> conv => whnf)
    | exact (rfl : (_ : Value) = _)
    | (simp only [*]; exact (rfl : (_ : Value) = _))
    | (simp [selF, codeF, *]; done))

theorem c_spec_Det_all {a b c d : Int}  : Pure Tryz.prog n_spec_DeterminantOf [pt a b, pt c d] (t2 (ii (selF (isPtF a b && isPtF c d) (detF a b c d) 0)) (ii (codeF (isPtF a b && isPtF c d)))) := by
  refine pure_of good fn_spec_DeterminantOf rfl rfl ?_
  conv => whnf
  all_goals (repeat' first
    | (refine StoreK.mk rfl ?_; conv => whnf)
    | exact join_same
    | exact (by assumption : (_ : Bool) = (_ : Bool))
    | (refine br_true (by assumption) ?_; conv => whnf)
    | (refine br_false (by assumption) ?_; conv => whnf)
    | (refine br_not ?_; conv => whnf)
    | (refine br_code ?_; conv => whnf)
    | (with_reducible refine br_and ?_; conv => whnf)
    | (with_reducible refine br_or ?_; conv => whnf)
    | (refine br_eq2 ?_; conv => whnf)
    | (refine c_code_2.call1 rfl rfl ⟨_, rfl⟩ ?_; conv => whnf)
    | (refine c_code_2.quiet1 rfl rfl ⟨_, rfl⟩ ?_; conv => whnf)
    | (refine c_code_3.call1 rfl rfl ⟨_, rfl⟩ ?_; conv => whnf)
    | (refine c_code_3.quiet1 rfl rfl ⟨_, rfl⟩ ?_; conv => whnf)
    | (refine c_code_1.call1 rfl rfl ⟨_, rfl⟩ ?_; conv => whnf)
    | (refine c_code_1.quiet1 rfl rfl ⟨_, rfl⟩ ?_; conv => whnf)
    | (refine c_spec_l01Det.call ?_; conv => whnf)
    | (refine c_spec_l01Det.quiet ?_; conv => whnf)
    | (refine draw_auto (by decide +kernel) ?_; conv => whnf)
    | (refine draw_asg (by decide +kernel) ?_; conv => whnf)
    | (refine draw_st (by decide +kernel) ?_; conv => whnf)
    | (refine draw_call (by decide +kernel) ?_; conv => whnf)
    | (refine enter_same (loop_n 12 ?_); conv => whnf)
    | (refine next_same ?_; conv => whnf)
    | (refine mapK_row (by assumption) ?_; conv => whnf)
    | (refine mapK_plain (Plain.of rfl) ?_; conv => whnf)
    | (refine mapK_lit ?_; conv => whnf)
    | (refine br_split (fun _ => ?_) (fun _ => ?_) <;> conv => whnf)
    | exact (rfl : (_ : Value) = _)
    | (simp only [*]; exact (rfl : (_ : Value) = _))
    | (simp [selF, codeF, *]; done))

theorem c_spec_DetM_all {a b c d : Int}  : Pure Tryz.prog n_spec_DeterminantOfMatrix [q4 a b c d] (t2 (ii (selF (isPtF a b && isPtF c d) (detF a b c d) 0)) (ii (codeF (isPtF a b && isPtF c d)))) := by
  refine pure_of good fn_spec_DeterminantOfMatrix rfl rfl ?_
  conv => whnf
  all_goals (repeat' first
    | (refine StoreK.mk rfl ?_; conv => whnf)
    | exact join_same
    | exact (by assumption : (_ : Bool) = (_ : Bool))
    | (refine br_true (by assumption) ?_; conv => whnf)
    | (refine br_false (by assumption) ?_; conv => whnf)
    | (refine br_not ?_; conv => whnf)
    | (refine br_code ?_; conv => whnf)
    | (with_reducible refine br_and ?_; conv => whnf)
    | (with_reducible refine br_or ?_; conv => whnf)
    | (refine br_eq2 ?_; conv => whnf)
    | (refine c_spec_l01Matrix.call ?_; conv => whnf)
    | (refine c_spec_l01Matrix.quiet ?_; conv => whnf)
    | (refine c_spec_l01DetOf.call ?_; conv => whnf)
    | (refine c_spec_l01DetOf.quiet ?_; conv => whnf)
    | (refine draw_auto (by decide +kernel) ?_; conv => whnf)
    | (refine draw_asg (by decide +kernel) ?_; conv => whnf)
    | (refine draw_st (by decide +kernel) ?_; conv => whnf)
    | (refine draw_call (by decide +kernel) ?_; conv => whnf)
    | (refine enter_same (loop_n 12 ?_); conv => whnf)
    | (refine next_same ?_; conv => whnf)
    | (refine mapK_row (by assumption) ?_; conv => whnf)
    | (refine mapK_plain (Plain.of rfl) ?_; conv => whnf)
    | (refine mapK_lit ?_; conv => whnf)
    | (refine br_split (fun _ => ?_) (fun _ => ?_) <;> conv => whnf)
    | exact (rfl : (_ : Value) = _)
    | (simp only [*]; exact (rfl : (_ : Value) = _))
    | (simp [selF, codeF, *]; done))

theorem c_impl_ExpandFraction_ok {a b : Int} (h : ratF a b = true) : CallOK Tryz.prog n_impl_ExpandFraction [ii a, ii b] [] (fun v m_ => ∃ n c sp, Row (il (expL a b)) sp n c 1 ∧ n ≤ 1000001 ∧ v = t2 (.slice (some ⟨0, 0, none⟩) n c) (ii 0) ∧ m_ = [(il (expL a b) ++ sp, some 2)]) := by
  have hx_ := ratF_ok h; refine callOK_ofF good fn_impl_ExpandFraction ?_
  conv => whnf
  all_goals (repeat' first
    | exact out_forget [_] ⟨_, _, _, hrow_, hn_, rfl, rfl⟩ rfl (okB2_spec rfl) ⟨⟨_, rfl, .plain rfl rfl (Row.all hrow_)⟩, trivial⟩ rfl rfl
    | (refine StoreK.mk rfl ?_; conv => whnf)
    | exact join_same
    | exact (by assumption : (_ : Bool) = (_ : Bool))
    | (refine br_true (by assumption) ?_; conv => whnf)
    | (refine br_false (by assumption) ?_; conv => whnf)
    | (refine br_not ?_; conv => whnf)
    | (refine br_code ?_; conv => whnf)
    | (with_reducible refine br_and ?_; conv => whnf)
    | (with_reducible refine br_or ?_; conv => whnf)
    | (refine br_eq2 ?_; conv => whnf)
    | (refine c_impl_ratioOk.call ?_; conv => whnf)
    | (refine c_impl_ratioOk.quiet ?_; conv => whnf)
    | (refine CallOK.useR (c_impl_expand (by first | assumption | exact Row.lit rfl rfl | omega)) [] rfl rfl rfl trivial (fun v_ mem_ hR => ?_); obtain ⟨n_, c_, sp_, hrow_, hn_, rfl, rfl⟩ := hR; refine ⟨rfl, ?_⟩; conv => whnf)
    | (refine draw_auto (by decide +kernel) ?_; conv => whnf)
    | (refine draw_asg (by decide +kernel) ?_; conv => whnf)
    | (refine draw_st (by decide +kernel) ?_; conv => whnf)
    | (refine draw_call (by decide +kernel) ?_; conv => whnf)
    | (refine enter_same (loop_n 12 ?_); conv => whnf)
    | (refine next_same ?_; conv => whnf)
    | (refine mapK_row (by assumption) ?_; conv => whnf)
    | (refine mapK_plain (Plain.of rfl) ?_; conv => whnf)
    | (refine mapK_lit ?_; conv => whnf)
    | (refine br_split (fun _ => ?_) (fun _ => ?_) <;> conv => whnf)
    | exact (rfl : (_ : Value) = _)
    | (simp only [*]; exact (rfl : (_ : Value) = _))
    | (simp [*]; done))

theorem c_impl_ExpandFraction_no {a b : Int} (h : ratF a b = false) : CallOK Tryz.prog n_impl_ExpandFraction [ii a, ii b] [] (fun v m_ => v = t2 (.slice none 0 0) (ii 2) ∧ m_ = []) := by
  refine callOK_ofF good fn_impl_ExpandFraction ?_
  conv => whnf
  all_goals (repeat' first
    | exact out_forget [] ⟨rfl, rfl⟩ rfl (okB2_spec rfl) trivial rfl rfl
    | (refine StoreK.mk rfl ?_; conv => whnf)
    | exact join_same
    | exact (by assumption : (_ : Bool) = (_ : Bool))
    | (refine br_true (by assumption) ?_; conv => whnf)
    | (refine br_false (by assumption) ?_; conv => whnf)
    | (refine br_not ?_; conv => whnf)
    | (refine br_code ?_; conv => whnf)
    | (with_reducible refine br_and ?_; conv => whnf)
    | (with_reducible refine br_or ?_; conv => whnf)
    | (refine br_eq2 ?_; conv => whnf)
    | (refine c_impl_ratioOk.call ?_; conv => whnf)
    | (refine c_impl_ratioOk.quiet ?_; conv => whnf)
    | (refine CallOK.useR (c_impl_expand (by first | assumption | exact Row.lit rfl rfl | omega)) [] rfl rfl rfl trivial (fun v_ mem_ hR => ?_); obtain ⟨n_, c_, sp_, hrow_, hn_, rfl, rfl⟩ := hR; refine ⟨rfl, ?_⟩; conv => whnf)
    | (refine draw_auto (by decide +kernel) ?_; conv => whnf)
    | (refine draw_asg (by decide +kernel) ?_; conv => whnf)
    | (refine draw_st (by decide +kernel) ?_; conv => whnf)
    | (refine draw_call (by decide +kernel) ?_; conv => whnf)
    | (refine enter_same (loop_n 12 ?_); conv => whnf)
    | (refine next_same ?_; conv => whnf)
    | (refine mapK_row (by assumption) ?_; conv => whnf)
    | (refine mapK_plain (Plain.of rfl) ?_; conv => whnf)
    | (refine mapK_lit ?_; conv => whnf)
    | (refine br_split (fun _ => ?_) (fun _ => ?_) <;> conv => whnf)
    | exact (rfl : (_ : Value) = _)
    | (simp only [*]; exact (rfl : (_ : Value) = _))
    | (simp [*]; done))

theorem c_spec_ExpandFraction_no1 {a b : Int} (h : isCoordF a = false) : CallOK Tryz.prog n_spec_ExpandFraction [ii a, ii b] [] (fun v m_ => v = t2 (.slice none 0 0) (ii 2) ∧ m_ = []) := by
  refine callOK_ofF good fn_spec_ExpandFraction ?_
  conv => whnf
  all_goals (repeat' first
    | exact out_forget [] ⟨rfl, rfl⟩ rfl (okB2_spec rfl) trivial rfl rfl
    | (refine StoreK.mk rfl ?_; conv => whnf)
    | exact join_same
    | exact (by assumption : (_ : Bool) = (_ : Bool))
    | (refine br_true (by assumption) ?_; conv => whnf)
    | (refine br_false (by assumption) ?_; conv => whnf)
    | (refine br_not ?_; conv => whnf)
    | (refine br_code ?_; conv => whnf)
    | (with_reducible refine br_and ?_; conv => whnf)
    | (with_reducible refine br_or ?_; conv => whnf)
    | (refine br_eq2 ?_; conv => whnf)
    | (refine c_spec_l01Fits.call ?_; conv => whnf)
    | (refine c_spec_l01Fits.quiet ?_; conv => whnf)
    | (refine c_spec_l01In.call ?_; conv => whnf)
    | (refine c_spec_l01In.quiet ?_; conv => whnf)
    | (refine CallOK.useR (c_spec_l01Expand (by first | assumption | exact Row.lit rfl rfl | omega)) [] rfl rfl rfl trivial (fun v_ mem_ hR => ?_); obtain ⟨n_, c_, sp_, hrow_, hn_, rfl, rfl⟩ := hR; refine ⟨rfl, ?_⟩; conv => whnf)
    | (refine draw_auto (by decide +kernel) ?_; conv => whnf)
    | (refine draw_asg (by decide +kernel) ?_; conv => whnf)
    | (refine draw_st (by decide +kernel) ?_; conv => whnf)
    | (refine draw_call (by decide +kernel) ?_; conv => whnf)
    | (refine enter_same (loop_n 12 ?_); conv => whnf)
    | (refine next_same ?_; conv => whnf)
    | (refine mapK_row (by assumption) ?_; conv => whnf)
    | (refine mapK_plain (Plain.of rfl) ?_; conv => whnf)
    | (refine mapK_lit ?_; conv => whnf)
    | (refine br_split (fun _ => ?_) (fun _ => ?_) <;> conv => whnf)
    | exact (rfl : (_ : Value) = _)
    | (simp only [*]; exact (rfl : (_ : Value) = _))
    | (simp [*]; done))

theorem c_spec_ExpandFraction_no2 {a b : Int} (h : isCoordF a = true) (h2 : inF b 1 1000000 = false) : CallOK Tryz.prog n_spec_ExpandFraction [ii a, ii b] [] (fun v m_ => v = t2 (.slice none 0 0) (ii 2) ∧ m_ = []) := by
  refine callOK_ofF good fn_spec_ExpandFraction ?_
  conv => whnf
  all_goals (repeat' first
    | exact out_forget [] ⟨rfl, rfl⟩ rfl (okB2_spec rfl) trivial rfl rfl
    | (refine StoreK.mk rfl ?_; conv => whnf)
    | exact join_same
    | exact (by assumption : (_ : Bool) = (_ : Bool))
    | (refine br_true (by assumption) ?_; conv => whnf)
    | (refine br_false (by assumption) ?_; conv => whnf)
    | (refine br_not ?_; conv => whnf)
    | (refine br_code ?_; conv => whnf)
    | (with_reducible refine br_and ?_; conv => whnf)
    | (with_reducible refine br_or ?_; conv => whnf)
    | (refine br_eq2 ?_; conv => whnf)
    | (refine c_spec_l01Fits.call ?_; conv => whnf)
    | (refine c_spec_l01Fits.quiet ?_; conv => whnf)
    | (refine c_spec_l01In.call ?_; conv => whnf)
    | (refine c_spec_l01In.quiet ?_; conv => whnf)
    | (refine CallOK.useR (c_spec_l01Expand (by first | assumption | exact Row.lit rfl rfl | omega)) [] rfl rfl rfl trivial (fun v_ mem_ hR => ?_); obtain ⟨n_, c_, sp_, hrow_, hn_, rfl, rfl⟩ := hR; refine ⟨rfl, ?_⟩; conv => whnf)
    | (refine draw_auto (by decide +kernel) ?_; conv => whnf)
    | (refine draw_asg (by decide +kernel) ?_; conv => whnf)
    | (refine draw_st (by decide +kernel) ?_; conv => whnf)
    | (refine draw_call (by decide +kernel) ?_; conv => whnf)
    | (refine enter_same (loop_n 12 ?_); conv => whnf)
    | (refine next_same ?_; conv => whnf)
    | (refine mapK_row (by assumption) ?_; conv => whnf)
    | (refine mapK_plain (Plain.of rfl) ?_; conv => whnf)
    | (refine mapK_lit ?_; conv => whnf)
    | (refine br_split (fun _ => ?_) (fun _ => ?_) <;> conv => whnf)
    | exact (rfl : (_ : Value) = _)
    | (simp only [*]; exact (rfl : (_ : Value) = _))
    | (simp [*]; done))

theorem c_spec_ExpandFraction_ok3 {a b : Int} (h : ratF a b = true) (h1 : isCoordF a = true) (h2 : inF b 1 1000000 = true) : CallOK Tryz.prog n_spec_ExpandFraction [ii a, ii b] [] (fun v m_ => ∃ n c sp, Row (il (expL a b)) sp n c 1 ∧ n ≤ 1000001 ∧ v = t2 (.slice (some ⟨0, 0, none⟩) n c) (ii 0) ∧ m_ = [(il (expL a b) ++ sp, some 2)]) := by
  have hx_ := ratF_ok h; refine callOK_ofF good fn_spec_ExpandFraction ?_
  conv => whnf
  all_goals (repeat' first
    | exact out_forget [_] ⟨_, _, _, hrow_, hn_, rfl, rfl⟩ rfl (okB2_spec rfl) ⟨⟨_, rfl, .plain rfl rfl (Row.all hrow_)⟩, trivial⟩ rfl rfl
    | (refine StoreK.mk rfl ?_; conv => whnf)
    | exact join_same
    | exact (by assumption : (_ : Bool) = (_ : Bool))
    | (refine br_true (by assumption) ?_; conv => whnf)
    | (refine br_false (by assumption) ?_; conv => whnf)
    | (refine br_not ?_; conv => whnf)
    | (refine br_code ?_; conv => whnf)
    | (with_reducible refine br_and ?_; conv => whnf)
    | (with_reducible refine br_or ?_; conv => whnf)
    | (refine br_eq2 ?_; conv => whnf)
    | (refine c_spec_l01Fits.call ?_; conv => whnf)
    | (refine c_spec_l01Fits.quiet ?_; conv => whnf)
    | (refine c_spec_l01In.call ?_; conv => whnf)
    | (refine c_spec_l01In.quiet ?_; conv => whnf)
    | (refine CallOK.useR (c_spec_l01Expand (by first | assumption | exact Row.lit rfl rfl | omega)) [] rfl rfl rfl trivial (fun v_ mem_ hR => ?_); obtain ⟨n_, c_, sp_, hrow_, hn_, rfl, rfl⟩ := hR; refine ⟨rfl, ?_⟩; conv => whnf)
    | (refine draw_auto (by decide +kernel) ?_; conv => whnf)
    | (refine draw_asg (by decide +kernel) ?_; conv => whnf)
    | (refine draw_st (by decide +kernel) ?_; conv => whnf)
    | (refine draw_call (by decide +kernel) ?_; conv => whnf)
    | (refine enter_same (loop_n 12 ?_); conv => whnf)
    | (refine next_same ?_; conv => whnf)
    | (refine mapK_row (by assumption) ?_; conv => whnf)
    | (refine mapK_plain (Plain.of rfl) ?_; conv => whnf)
    | (refine mapK_lit ?_; conv => whnf)
    | (refine br_split (fun _ => ?_) (fun _ => ?_) <;> conv => whnf)
    | exact (rfl : (_ : Value) = _)
    | (simp only [*]; exact (rfl : (_ : Value) = _))
    | (simp [*]; done))

theorem ratF_parts {a b : Int} (h : ratF a b = true) : isCoordF a = true ∧ inF b 1 1000000 = true := by unfold ratF at h; exact Bool.and_eq_true_iff.1 h
theorem c_spec_ExpandFraction_ok {a b : Int} (h : ratF a b = true) : CallOK Tryz.prog n_spec_ExpandFraction [ii a, ii b] [] (fun v m_ => ∃ n c sp, Row (il (expL a b)) sp n c 1 ∧ n ≤ 1000001 ∧ v = t2 (.slice (some ⟨0, 0, none⟩) n c) (ii 0) ∧ m_ = [(il (expL a b) ++ sp, some 2)]) := c_spec_ExpandFraction_ok3 h (ratF_parts h).1 (ratF_parts h).2
theorem c_spec_ExpandFraction_no {a b : Int} (h : ratF a b = false) : CallOK Tryz.prog n_spec_ExpandFraction [ii a, ii b] [] (fun v m_ => v = t2 (.slice none 0 0) (ii 2) ∧ m_ = []) := by
  cases h1 : isCoordF a
  · exact c_spec_ExpandFraction_no1 h1
  · exact c_spec_ExpandFraction_no2 h1 (by cases h2 : inF b 1 1000000; rfl; unfold ratF at h; rw [h1, h2] at h; cases h)
theorem c_spec_ConvergentsOf_okx {a b : Int} (h : ratF a b = true) : CallOK Tryz.prog n_spec_ConvergentsOf [ii a, ii b] [] (fun v m_ => ∃ n c sp, Row (pl (convs (expL a b))) sp n c 2 ∧ n ≤ 1000001 ∧ v = t2 (.slice (some ⟨0, 0, none⟩) n c) (ii 0) ∧ m_ = [(pl (convs (expL a b)) ++ sp, some t_impl_Point)]) := c_spec_ConvergentsOf_ok h (ratF_parts h).1 (ratF_parts h).2
theorem c_spec_ConvergentsOf_nox {a b : Int} (h : ratF a b = false) : CallOK Tryz.prog n_spec_ConvergentsOf [ii a, ii b] [] (fun v m_ => v = t2 (.slice none 0 0) (ii 2) ∧ m_ = []) := by
  cases h1 : isCoordF a
  · exact c_spec_ConvergentsOf_no1 h1
  · exact c_spec_ConvergentsOf_no2 h1 (by cases h2 : inF b 1 1000000; rfl; unfold ratF at h; rw [h1, h2] at h; cases h)

theorem c_l01List {xs : List Int} {sp : List Value} {n c : Nat} (h1 : Row (il xs) sp n c 1) (hn : n ≤ 1048576) : CallOK Tryz.prog n_spec_l01List [.slice (some ⟨0, 0, none⟩) n c] [(il xs ++ sp, none)] (fun v m_ => v = bb (frB xs) ∧ m_ = [(il xs ++ sp, none)]) := by
  obtain rfl := row_il h1; refine callOK_ofF good fn_spec_l01List ?_
  conv => whnf
  all_goals (repeat' first
    | (refine enter_forget [] (loop_rec (fun (s : Int) => match s with | i => [.slice (some ⟨0, 0, none⟩) xs.length c, wild, wild, ii i, wild, wild, wild, wild, wild, wild, wild, wild, wild, wild, wild, wild, wild, wild, wild, wild, wild, wild, wild, wild, wild, wild, wild, wild, wild, wild, wild, wild, wild, wild, wild]) (fun (s : Int) => match s with | i => [(il xs ++ sp, none)]) (fun (s : Int) => match s with | i => ((xs.length : Int) - i).toNat) (fun (s : Int) => match s with | i => FlsI xs i) (0) (FlsI.start xs) ?_) (tmR_rfl rfl rfl) ⟨⟨⟨_, rfl, .plain rfl rfl (Row.all h1)⟩⟩, trivial⟩ rfl rfl; rintro fuel_ i hI IH; replace hI : FlsI xs i := hI; conv => whnf)
    | exact next_forget [] (IH (w64 (i + 1)) (by exact hI.next hn (by assumption) (by assumption) (.inl (by assumption))) (by exact idx_mu ⟨hI.lo, hI.hi⟩ (by assumption) (by omega))) (tmR_rfl rfl rfl) ⟨⟨⟨_, rfl, .plain rfl rfl (Row.all h1)⟩⟩, trivial⟩ rfl rfl
    | exact next_forget [] (IH (w64 (i + 1)) (by exact hI.next hn (by assumption) (by assumption) (.inr (by assumption))) (by exact idx_mu ⟨hI.lo, hI.hi⟩ (by assumption) (by omega))) (tmR_rfl rfl rfl) ⟨⟨⟨_, rfl, .plain rfl rfl (Row.all h1)⟩⟩, trivial⟩ rfl rfl
    | (refine br_in hI.lo (of_decide_eq_true (show decide (i < (xs.length : Int)) = true by assumption)) ?_; conv => whnf)
    | (refine force_eq (take_il (xs := xs) (i := i.toNat) ?_ ?_) ?_; (focus (simp only [Nat.mul_one, Nat.zero_add]; done)); (focus (have := hI.lo; have := (of_decide_eq_true (show decide (i < (xs.length : Int)) = true by assumption)); omega)); conv => whnf)
    | (exact out_forget [] ⟨congrArg Value.bool (hI.bad (by assumption) (.inl (by assumption))).symm, rfl⟩ rfl (okB2_spec rfl) ⟨⟨⟨_, rfl, .plain rfl rfl (Row.all h1)⟩⟩, trivial⟩ rfl rfl)
    | (exact out_forget [] ⟨congrArg Value.bool (hI.bad (by assumption) (.inr ⟨by assumption, by assumption⟩)).symm, rfl⟩ rfl (okB2_spec rfl) ⟨⟨⟨_, rfl, .plain rfl rfl (Row.all h1)⟩⟩, trivial⟩ rfl rfl)
    | (exact out_forget [] ⟨congrArg Value.bool (fls_end1 hI (by assumption) (by assumption)).symm, rfl⟩ rfl (okB2_spec rfl) ⟨⟨⟨_, rfl, .plain rfl rfl (Row.all h1)⟩⟩, trivial⟩ rfl rfl)
    | (exact out_forget [] ⟨congrArg Value.bool (fls_end2 hI (by assumption) (by assumption)).symm, rfl⟩ rfl (okB2_spec rfl) ⟨⟨⟨_, rfl, .plain rfl rfl (Row.all h1)⟩⟩, trivial⟩ rfl rfl)
    | (exact out_forget [] ⟨congrArg Value.bool (fls_end hI (by assumption)).symm, rfl⟩ rfl (okB2_spec rfl) ⟨⟨⟨_, rfl, .plain rfl rfl (Row.all h1)⟩⟩, trivial⟩ rfl rfl)
    | (refine StoreK.mk rfl ?_; conv => whnf)
    | exact join_same
    | exact (by assumption : (_ : Bool) = (_ : Bool))
    | (refine br_true (by assumption) ?_; conv => whnf)
    | (refine br_false (by assumption) ?_; conv => whnf)
    | (refine br_not ?_; conv => whnf)
    | (refine br_code ?_; conv => whnf)
    | (with_reducible refine br_and ?_; conv => whnf)
    | (with_reducible refine br_or ?_; conv => whnf)
    | (refine br_eq2 ?_; conv => whnf)
    | (refine c_spec_l01Fits.call ?_; conv => whnf)
    | (refine c_spec_l01Fits.quiet ?_; conv => whnf)
    | (refine draw_auto (by decide +kernel) ?_; conv => whnf)
    | (refine draw_asg (by decide +kernel) ?_; conv => whnf)
    | (refine draw_st (by decide +kernel) ?_; conv => whnf)
    | (refine draw_call (by decide +kernel) ?_; conv => whnf)
    | (refine enter_same (loop_n 12 ?_); conv => whnf)
    | (refine next_same ?_; conv => whnf)
    | (refine mapK_row (by assumption) ?_; conv => whnf)
    | (refine mapK_plain (Plain.of rfl) ?_; conv => whnf)
    | (refine mapK_lit ?_; conv => whnf)
    | (refine br_split (fun _ => ?_) (fun _ => ?_) <;> conv => whnf)
    | exact (rfl : (_ : Value) = _)
    | (simp only [*]; exact (rfl : (_ : Value) = _))
    | (simp [*]; done))

theorem fold_val {o : Option (Int × Int)} {p q P R : Int} (h1 : o = some (p, q)) (h2 : o = some (P, R)) : (Value.tuple #[ii p, ii q, bb true]) = .tuple #[ii P, ii R, bb true] := by
  rw [h1] at h2; cases h2; rfl

theorem c_foldG_ok {xs : List Int} {sp : List Value} {n c : Nat} {P R : Int} (h1 : Row (il xs) sp n c 1) (hn : n ≤ 1048576) (hB : frB xs = true) (hf : frG xs.reverse 1 0 = some (P, R)) : CallOK Tryz.prog n_spec_l01Fold [.slice (some ⟨0, 0, none⟩) n c] [(il xs ++ sp, none)] (fun v m_ => v = .tuple #[ii P, ii R, bb true] ∧ m_ = [(il xs ++ sp, none)]) := by
  obtain rfl := row_il h1; have hl60 := frB_len hB; refine callOK_ofF good fn_spec_l01Fold ?_
  conv => whnf
  all_goals (repeat' first
    | (refine enter_forget [] (loop_rec (fun (s : Int × Int × Int) => match s with | (p, q, i) => [.slice (some ⟨0, 0, none⟩) xs.length c, wild, wild, wild, wild, ii p, ii q, ii i, wild, wild, wild, wild, wild, wild, wild, wild, wild, wild, wild, wild, wild, wild, wild, wild, wild, wild, wild, wild, wild, wild, wild, wild, wild, wild, wild, wild, wild, wild, wild, wild, wild, wild]) (fun (s : Int × Int × Int) => match s with | (p, q, i) => [(il xs ++ sp, none)]) (fun (s : Int × Int × Int) => match s with | (p, q, i) => (i + 1).toNat) (fun (s : Int × Int × Int) => match s with | (p, q, i) => FrI xs p q i) (_, _, _) (FrI.start hB) ?_) (tmR_rfl rfl rfl) ⟨⟨⟨_, rfl, .plain rfl rfl (Row.all h1)⟩⟩, trivial⟩ rfl rfl; rintro fuel_ ⟨p, q, i⟩ hI IH; replace hI : FrI xs p q i := hI; conv => whnf)
    | exact next_forget [] (IH (_, _, _) (by exact hI.next hl60.2 (by assumption) (by assumption) (by assumption)) (by exact hI.mu hl60.2 (by assumption))) (tmR_rfl rfl rfl) ⟨⟨⟨_, rfl, .plain rfl rfl (Row.all h1)⟩⟩, trivial⟩ rfl rfl
    | (refine br_in (by (try clear IH); (try simp only [w64_def, decide_eq_true_eq, decide_eq_false_iff_not, Bool.not_eq_true, Bool.not_eq_false, Bool.not_eq_eq_eq_not, Bool.not_true, Bool.not_false] at *); omega) (by (try clear IH); (try simp only [w64_def, decide_eq_true_eq, decide_eq_false_iff_not, Bool.not_eq_true, Bool.not_eq_false, Bool.not_eq_eq_eq_not, Bool.not_true, Bool.not_false] at *); omega) ?_; conv => whnf)
    | (refine br_in (of_decide_eq_true (show decide (i ≥ 0) = true by assumption)) (by have := hI.hi; omega) ?_; conv => whnf)
    | (refine force_eq (take_il (xs := xs) (i := (w64 ((xs.length : Int) - 1)).toNat) ?_ ?_) ?_; (focus (simp only [Nat.mul_one, Nat.zero_add]; done)); (focus (exact fold_last hl60)); conv => whnf)
    | (refine force_eq (take_il (xs := xs) (i := i.toNat) ?_ ?_) ?_; (focus (simp only [Nat.mul_one, Nat.zero_add]; done)); (focus (have := hI.hi; have := of_decide_eq_true (show decide (i ≥ 0) = true by assumption); omega)); conv => whnf)
    | (exact out_forget [] ⟨fold_val (hI.fin (by assumption)) hf, rfl⟩ rfl (okB2_spec rfl) ⟨⟨⟨_, rfl, .plain rfl rfl (Row.all h1)⟩⟩, trivial⟩ rfl rfl)
    | exact (fold_no (hI.bad (by assumption) (.inl (by assumption))) hf).elim
    | exact (fold_no (hI.bad (by assumption) (.inr (by assumption))) hf).elim
    | (refine StoreK.mk rfl ?_; conv => whnf)
    | exact join_same
    | exact (by assumption : (_ : Bool) = (_ : Bool))
    | (refine br_true (by assumption) ?_; conv => whnf)
    | (refine br_false (by assumption) ?_; conv => whnf)
    | (refine br_not ?_; conv => whnf)
    | (refine br_code ?_; conv => whnf)
    | (with_reducible refine br_and ?_; conv => whnf)
    | (with_reducible refine br_or ?_; conv => whnf)
    | (refine br_eq2 ?_; conv => whnf)
    | (refine c_spec_l01Fits.call ?_; conv => whnf)
    | (refine c_spec_l01Fits.quiet ?_; conv => whnf)
    | (refine draw_auto (by decide +kernel) ?_; conv => whnf)
    | (refine draw_asg (by decide +kernel) ?_; conv => whnf)
    | (refine draw_st (by decide +kernel) ?_; conv => whnf)
    | (refine draw_call (by decide +kernel) ?_; conv => whnf)
    | (refine enter_same (loop_n 12 ?_); conv => whnf)
    | (refine next_same ?_; conv => whnf)
    | (refine mapK_row (by assumption) ?_; conv => whnf)
    | (refine mapK_plain (Plain.of rfl) ?_; conv => whnf)
    | (refine mapK_lit ?_; conv => whnf)
    | (refine br_split (fun _ => ?_) (fun _ => ?_) <;> conv => whnf)
    | exact (rfl : (_ : Value) = _)
    | (simp only [*]; exact (rfl : (_ : Value) = _))
    | (simp [*]; done))

theorem c_foldG_no {xs : List Int} {sp : List Value} {n c : Nat} (h1 : Row (il xs) sp n c 1) (hn : n ≤ 1048576) (hB : frB xs = true) (hf : frG xs.reverse 1 0 = none) : CallOK Tryz.prog n_spec_l01Fold [.slice (some ⟨0, 0, none⟩) n c] [(il xs ++ sp, none)] (fun v m_ => v = .tuple #[ii 0, ii 0, bb false] ∧ m_ = [(il xs ++ sp, none)]) := by
  obtain rfl := row_il h1; have hl60 := frB_len hB; refine callOK_ofF good fn_spec_l01Fold ?_
  conv => whnf
  all_goals (repeat' first
    | (refine enter_forget [] (loop_rec (fun (s : Int × Int × Int) => match s with | (p, q, i) => [.slice (some ⟨0, 0, none⟩) xs.length c, wild, wild, wild, wild, ii p, ii q, ii i, wild, wild, wild, wild, wild, wild, wild, wild, wild, wild, wild, wild, wild, wild, wild, wild, wild, wild, wild, wild, wild, wild, wild, wild, wild, wild, wild, wild, wild, wild, wild, wild, wild, wild]) (fun (s : Int × Int × Int) => match s with | (p, q, i) => [(il xs ++ sp, none)]) (fun (s : Int × Int × Int) => match s with | (p, q, i) => (i + 1).toNat) (fun (s : Int × Int × Int) => match s with | (p, q, i) => FrI xs p q i) (_, _, _) (FrI.start hB) ?_) (tmR_rfl rfl rfl) ⟨⟨⟨_, rfl, .plain rfl rfl (Row.all h1)⟩⟩, trivial⟩ rfl rfl; rintro fuel_ ⟨p, q, i⟩ hI IH; replace hI : FrI xs p q i := hI; conv => whnf)
    | exact next_forget [] (IH (_, _, _) (by exact hI.next hl60.2 (by assumption) (by assumption) (by assumption)) (by exact hI.mu hl60.2 (by assumption))) (tmR_rfl rfl rfl) ⟨⟨⟨_, rfl, .plain rfl rfl (Row.all h1)⟩⟩, trivial⟩ rfl rfl
    | (refine br_in (by (try clear IH); (try simp only [w64_def, decide_eq_true_eq, decide_eq_false_iff_not, Bool.not_eq_true, Bool.not_eq_false, Bool.not_eq_eq_eq_not, Bool.not_true, Bool.not_false] at *); omega) (by (try clear IH); (try simp only [w64_def, decide_eq_true_eq, decide_eq_false_iff_not, Bool.not_eq_true, Bool.not_eq_false, Bool.not_eq_eq_eq_not, Bool.not_true, Bool.not_false] at *); omega) ?_; conv => whnf)
    | (refine br_in (of_decide_eq_true (show decide (i ≥ 0) = true by assumption)) (by have := hI.hi; omega) ?_; conv => whnf)
    | (refine force_eq (take_il (xs := xs) (i := (w64 ((xs.length : Int) - 1)).toNat) ?_ ?_) ?_; (focus (simp only [Nat.mul_one, Nat.zero_add]; done)); (focus (exact fold_last hl60)); conv => whnf)
    | (refine force_eq (take_il (xs := xs) (i := i.toNat) ?_ ?_) ?_; (focus (simp only [Nat.mul_one, Nat.zero_add]; done)); (focus (have := hI.hi; have := of_decide_eq_true (show decide (i ≥ 0) = true by assumption); omega)); conv => whnf)
    | exact (fold_no hf (hI.fin (by assumption))).elim
    | (exact out_forget [] ⟨rfl, rfl⟩ rfl (okB2_spec rfl) ⟨⟨⟨_, rfl, .plain rfl rfl (Row.all h1)⟩⟩, trivial⟩ rfl rfl)
    | (refine StoreK.mk rfl ?_; conv => whnf)
    | exact join_same
    | exact (by assumption : (_ : Bool) = (_ : Bool))
    | (refine br_true (by assumption) ?_; conv => whnf)
    | (refine br_false (by assumption) ?_; conv => whnf)
    | (refine br_not ?_; conv => whnf)
    | (refine br_code ?_; conv => whnf)
    | (with_reducible refine br_and ?_; conv => whnf)
    | (with_reducible refine br_or ?_; conv => whnf)
    | (refine br_eq2 ?_; conv => whnf)
    | (refine c_spec_l01Fits.call ?_; conv => whnf)
    | (refine c_spec_l01Fits.quiet ?_; conv => whnf)
    | (refine draw_auto (by decide +kernel) ?_; conv => whnf)
    | (refine draw_asg (by decide +kernel) ?_; conv => whnf)
    | (refine draw_st (by decide +kernel) ?_; conv => whnf)
    | (refine draw_call (by decide +kernel) ?_; conv => whnf)
    | (refine enter_same (loop_n 12 ?_); conv => whnf)
    | (refine next_same ?_; conv => whnf)
    | (refine mapK_row (by assumption) ?_; conv => whnf)
    | (refine mapK_plain (Plain.of rfl) ?_; conv => whnf)
    | (refine mapK_lit ?_; conv => whnf)
    | (refine br_split (fun _ => ?_) (fun _ => ?_) <;> conv => whnf)
    | exact (rfl : (_ : Value) = _)
    | (simp only [*]; exact (rfl : (_ : Value) = _))
    | (simp [*]; done))

end Go.Proofs.YtlkbfpklhncfbaaGreatDoor
end

section
/-
  Contracts of functions of the program (printed by a program of this work; Lean checks each).
  Conditions: as each contract states.
-/
namespace Go.Proofs.YtlkbfpklhncfbaaGreatDoor
open Go.Ev Go.RowKit
open Go.Shelf
set_option maxRecDepth 100000
set_option linter.unusedVariables false
set_option linter.unusedSimpArgs false

attribute [local go_sem] Oper.semAt_some

def bAt (zs : List Int) (k : Nat) : Nat × Int := (zs.length - 1 - k, zs.getD (zs.length - 1 - k) 0)
def upto {α : Type} (f : Nat → α) (k : Nat) : List α := (List.range k).map f
theorem upto_succ {α : Type} (f : Nat → α) (k : Nat) : upto f (k + 1) = upto f k ++ [f k] := by simp [upto, List.range_succ]
theorem upto_length {α : Type} (f : Nat → α) (k : Nat) : (upto f k).length = k := by simp [upto]

/-- What a round that goes on keeps: what lay below n₀, and the cell B. -/
def KeepB (n₀ B : Nat) (W W' : World) : Prop := Below n₀ W W' ∧ ∀ v, W.cell? ⟨B, 0, none⟩ = some v → W'.cell? ⟨B, 0, none⟩ = some v
theorem keepB_refl (n₀ B : Nat) (W : World) : KeepB n₀ B W W := ⟨Below.refl _ _, fun _ h => h⟩
theorem keepB_t {n₀ B : Nat} {A C D : World} (h : KeepB n₀ B A C) (k : KeepB n₀ B C D) : KeepB n₀ B A D := ⟨h.1.trans k.1, fun v hv => k.2 v (h.2 v hv)⟩

set_option maxRecDepth 100000 in
set_option maxHeartbeats 2000000 in
theorem back1_in (F : Fence) (n : Nat) (h8 : F.fn 80) (hro : F.round = none) (hn : 1 ≤ n) (l Bs n₀ b cap : Nat) (zs : List Int) (hreach : zs.length ≤ 1048576) (hb : b < n₀) (J Jx : List (Nat × Int) → World → Prop)
    (hY : ∀ pre x W, J pre W → pre.length < zs.length → YieldAt F (n - 1) Tryz.prog l #[.int .i64 (x.1 : Int), .int .i64 x.2] W fun e W' =>
      (e = .returned (.bool true) ∧ J (pre ++ [x]) W' ∧ KeepB n₀ Bs W W') ∨ (e = .returned (.bool false) ∧ Jx (pre ++ [x]) W'))
    (W : World) (hBs : W.cell? ⟨Bs, 0, none⟩ = some (.slice (some ⟨b, 0, none⟩) zs.length cap)) (hc : ∀ j, j < zs.length → W.cell? ⟨b, j, none⟩ = some (.int .i64 (zs.getD j 0))) (h0 : J [] W) :
    CallsIn F n Tryz.prog 80 #[.func (.yield l) #[] #[], .pointer (some ⟨Bs, 0, none⟩)] W fun e W' => (∃ v, e = .returned v) ∧
      ((∃ ys, ys = upto (bAt zs) zs.length ∧ J ys W') ∨ (∃ pre, (∃ k, k ≤ zs.length ∧ pre = upto (bAt zs) k) ∧ Jx pre W')) := by
  refine callsIn_of_wp Tryz.func80 rfl h8 ?_ hro
  simp only [Tryz.ntmps80, List.size_toArray, List.length_cons, List.length_nil, Nat.reduceAdd, Nat.reduceSub, Array.replicate_succ, Array.replicate_zero, List.push_toArray, List.append_toArray, List.nil_append, List.cons_append]
  gi_wp2
  gi_loopw [3] (fun i wr => ∃ k : Nat, k ≤ zs.length ∧ i = .int .i64 ((zs.length : Int) - 1 - k) ∧ J (upto (bAt zs) k) wr ∧ KeepB n₀ Bs W wr)
    (fun i _ => (intOf i + 1).toNat)
  case atStart => exact ⟨0, Nat.zero_le _, by simp, h0, keepB_refl _ _ _⟩
  case round =>
    obtain ⟨k, hk, rfl, hJs, hnx⟩ := hrel
    by_cases hlt : k < zs.length
    · obtain ⟨m, hm⟩ : ∃ m, m + k + 1 = zs.length := ⟨zs.length - 1 - k, by omega⟩
      have hi : (zs.length : Int) - 1 - k = (m : Int) := by omega
      have hbs := hnx.2 _ hBs
      have hcx' : wr.cell? ⟨b, m, none⟩ = some (.int .i64 (zs.getD m 0)) := (hnx.1.cell (p := ⟨b, m, none⟩) hb).trans (hc m (by omega))
      obtain ⟨fn, tmps, assign, body, hy, hR⟩ := hY _ (bAt zs k) wr hJs (by rw [upto_length]; exact hlt)
      have hbk : bAt zs k = (m, zs.getD m 0) := by unfold bAt; rw [show zs.length - 1 - k = m by omega]
      rw [hbk] at hy hR
      dsimp only at hy
      rw [hi]
      generalize hz : zs.getD m 0 = zv at hcx' hy hR hbk
      have hml : m < zs.length := by omega
      clear hz hi
      gi_wp2
      refine hR.mono ?_
      rintro e W3 (⟨rfl, hJ3, hk3⟩ | ⟨rfl, hJx3⟩)
      · gi_wp2
        go_roundw
        case rel =>
          refine ⟨k + 1, by omega, ?_, by rw [upto_succ, hbk]; exact hJ3, keepB_t hnx hk3⟩
          congr 1; omega
        case measure => simp [intOf]
      · gi_wp2
        refine bodyPost_ret (results_none rfl _ _ _) rfl ?_
        exact ⟨⟨_, rfl⟩, .inr ⟨_, ⟨k + 1, by omega, by rw [upto_succ, hbk]⟩, hJx3⟩⟩
    · obtain rfl : k = zs.length := by omega
      rw [show (zs.length : Int) - 1 - zs.length = -1 by omega]
      gi_wp2
      go_end0
      exact ⟨⟨_, rfl⟩, .inl ⟨_, rfl, hJs⟩⟩

set_option maxRecDepth 100000 in
set_option maxHeartbeats 1000000 in
theorem back_in (F : Fence) (n : Nat) (h6 : F.fn 46) (hro : F.round = none) (a : Option Addr) (len cap : Nat) (w : World) :
    CallsIn F n Tryz.prog 46 #[.slice a len cap] w fun e w' => e = .returned (.func (.func 80) #[] #[.pointer (some ⟨w.heap.size, 0, none⟩)]) ∧ w' = w.alloc (.cells #[.slice a len cap] 26) := by
  refine callsIn_of_wp Tryz.func46 rfl h6 ?_ hro
  simp only [Tryz.ntmps46, List.size_toArray, List.length_cons, List.length_nil, Nat.reduceAdd, Nat.reduceSub, Array.replicate_succ, Array.replicate_zero, List.push_toArray, List.append_toArray, List.nil_append, List.cons_append]
  gi_wp2
  go_ret
  exact ⟨rfl, rfl⟩

theorem back_stops (F : Fence) (n : Nat) (h8 : F.fn 80) (hro : F.round = none) (hn : 1 ≤ n) (Bs n₀ b cap : Nat) (zs : List Int) (hreach : zs.length ≤ 1048576) (w : World) (hBs : Bs < w.heap.size) (hn₀ : n₀ ≤ w.heap.size) (hb : b < n₀)
    (hc : w.cell? ⟨Bs, 0, none⟩ = some (.slice (some ⟨b, 0, none⟩) zs.length cap)) (hI : ∀ j, j < zs.length → w.cell? ⟨b, j, none⟩ = some (.int .i64 (zs.getD j 0))) :
    SeqStopsK F n Tryz.prog 80 #[.pointer (some ⟨Bs, 0, none⟩)] (fun x : Nat × Int => #[Value.int .i64 (x.1 : Int), Value.int .i64 x.2]) (KeepB n₀ Bs) (fun ys => ys = upto (bAt zs) zs.length)
      (fun pre => ∃ k, k ≤ zs.length ∧ pre = upto (bAt zs) k) zs.length w := fun l J Jx W hW _ _ hY h0 =>
  back1_in F n h8 hro hn l Bs n₀ b cap zs hreach hb J Jx hY W ((hW.cell (p := ⟨Bs, 0, none⟩) hBs).trans hc) (fun j hj => (hW.cell (p := ⟨b, j, none⟩) (Nat.lt_of_lt_of_le hb hn₀)).trans (hI j hj)) h0


def okCo (x : Int) : Bool := decide (-1000000 ≤ x) && decide (x ≤ 1000000)
theorem in_w (x lo hi : Int) (w : World) : Calls Tryz.prog 44 #[.int .i64 x, .int .i64 lo, .int .i64 hi] w fun e w' => e = .returned (.bool (decide (lo ≤ x) && decide (x ≤ hi))) ∧ w' = w := by
  go_enter Tryz.func44, Tryz.ntmps44
  go_wp2
  · rename_i h1
    go_ret
    exact ⟨by rw [decide_eq_true h1, Bool.true_and]; rfl, rfl⟩
  · rename_i h1
    go_ret
    exact ⟨by rw [decide_eq_false (by omega), Bool.false_and]; rfl, rfl⟩
theorem co_w (x : Int) (w : World) : Calls Tryz.prog 45 #[.int .i64 x] w fun e w' => e = .returned (.bool (okCo x)) ∧ w' = w := by
  have hin := in_w x (-1000000) 1000000
  have e : okCo x = (decide (-1000000 ≤ x) && decide (x ≤ 1000000)) := rfl
  rw [e]
  generalize (decide (-1000000 ≤ x) && decide (x ≤ 1000000)) = r at hin ⊢
  go_enter Tryz.func45, Tryz.ntmps45
  go_wp2_with (go_at_call 44; refine (hin _).mono ?_; rintro e w' ⟨rfl, rfl⟩)
  go_ret
  exact ⟨rfl, rfl⟩
theorem upto_snd (zs : List Int) {k : Nat} (hk : k ≤ zs.length) : (upto (bAt zs) k).map Prod.snd = zs.reverse.take k := by
  apply List.ext_getElem
  · simp [upto, hk]
  · intro i h1 h2
    have hi : i < k := by simpa [upto] using h1
    simp only [upto, bAt, List.map_map, List.getElem_map, List.getElem_range, Function.comp, List.getElem_take, List.getElem_reverse]
    simp [List.getD, List.getElem?_eq_getElem (show zs.length - 1 - i < zs.length by omega)]
theorem heap_set_same {W : World} {b t i : Nat} {cs : Array Value} {v : Value} (h : W.heap[b]? = some (.cells cs t (0, 0))) : (W.setCell ⟨b, i, none⟩ v).heap[b]? = some (.cells (cs.setIfInBounds i v) t (0, 0)) := by
  rw [Go.Ev.setCell_upd h, Go.Ev.upd_heap (Array.getElem?_eq_some_iff.1 h).1, if_pos rfl]
theorem heap_set_other {W : World} {b k i : Nat} {v : Value} (h : k ≠ b) : (W.setCell ⟨b, i, none⟩ v).heap[k]? = W.heap[k]? := Below.heap_setCell W ⟨b, i, none⟩ v k h
theorem keepB_b {n₀ B : Nat} {w : World} (hn : n₀ ≤ w.heap.size) (W : World) (l : Nat) (o o' : Obj) (hl : w.heap.size ≤ l) (ho : W.heap[l]? = some o) (hc : o.isCells = false) (hw : o.isWalk = false) : KeepB n₀ B W (W.putObj l o') :=
  ⟨belowK_b hn W l o o' hl ho hc hw, fun v hv => cell_kept hv (grownBy_putObj' W l o') (fun r e => by cases e; exact ⟨o, ho, hc⟩)⟩


/-- The fold, as long as both are coordinates. -/
def fgo : List Int → Int → Int → Option (Int × Int)
  | [], p, q => some (p, q)
  | c :: cs, p, q => if (okCo (wrap64 (wrap64 (c * p) + q)) && okCo p) = true then fgo cs (wrap64 (wrap64 (c * p) + q)) p else none
theorem fgo_app : ∀ (vs ws : List Int) (p q : Int), fgo (vs ++ ws) p q = (fgo vs p q).bind fun s => fgo ws s.1 s.2
  | [], ws, p, q => rfl
  | c :: vs, ws, p, q => by
    rw [List.cons_append, fgo, fgo]
    split
    · exact fgo_app vs ws _ _
    · rfl
/-- The first k numbers are as they should be. -/
def fOk (i : Nat) (x : Int) : Bool := okCo x && (decide (i = 0) || decide (1 ≤ x))
def fAll (zs : List Int) (k : Nat) : Prop := ∀ i, i < k → fOk i (zs.getD i 0) = true
def fBad (zs : List Int) : Prop := ¬ (1 ≤ zs.length ∧ zs.length ≤ 60) ∨ ∃ i, i < zs.length ∧ fOk i (zs.getD i 0) = false
open Classical in
noncomputable def frW (zs : List Int) : Value := if fBad zs then .tuple #[.int .i64 0, .int .i64 0, .int .i64 2] else match fgo zs.reverse 1 0 with
  | none => .tuple #[.int .i64 0, .int .i64 0, .int .i64 3]
  | some (p, q) => .tuple #[.int .i64 p, .int .i64 q, .int .i64 0]
structure FrAt (B : Nat) (a b c p q : Int) (W : World) : Prop where
  r1 : W.heap[B]? = some (.cells #[.int .i64 a] 2 (0, 0))
  r2 : W.heap[B + 1]? = some (.cells #[.int .i64 b] 2 (0, 0))
  r3 : W.heap[B + 2]? = some (.cells #[.int .i64 c] 2 (0, 0))
  p : W.heap[B + 3]? = some (.cells #[.int .i64 p] 2 (0, 0))
  q : W.heap[B + 4]? = some (.cells #[.int .i64 q] 2 (0, 0))
structure Fr3 (B : Nat) (a b c : Int) (W : World) : Prop where
  r1 : W.heap[B]? = some (.cells #[.int .i64 a] 2 (0, 0))
  r2 : W.heap[B + 1]? = some (.cells #[.int .i64 b] 2 (0, 0))
  r3 : W.heap[B + 2]? = some (.cells #[.int .i64 c] 2 (0, 0))
theorem Fr3.keep {B : Nat} {a b c : Int} {A W : World} {row : Option Nat} (h : Fr3 B a b c A) (hg : A.grownBy W row) (hr : ∀ r, row = some r → ∃ o : Obj, A.heap[r]? = some o ∧ o.isCells = false) : Fr3 B a b c W :=
  ⟨(grownBy_keeps_cells hg hr h.r1 rfl).trans h.r1, (grownBy_keeps_cells hg hr h.r2 rfl).trans h.r2, (grownBy_keeps_cells hg hr h.r3 rfl).trans h.r3⟩
theorem fr3_alloc (w : World) (a b c : Int) : Fr3 w.heap.size a b c (((w.alloc (.cells #[.int .i64 a] 2)).alloc (.cells #[.int .i64 b] 2)).alloc (.cells #[.int .i64 c] 2)) := by
  refine ⟨?_, ?_, ?_⟩
  · rw [Below.heap_alloc _ _ _ (by simp <;> omega), Below.heap_alloc _ _ _ (by simp <;> omega)]
    exact World.alloc_heap_new w _
  · rw [Below.heap_alloc _ _ _ (by simp <;> omega)]
    have := World.alloc_heap_new (w.alloc (.cells #[.int .i64 a] 2)) (.cells #[.int .i64 b] 2)
    rwa [World.size_alloc] at this
  · have := World.alloc_heap_new ((w.alloc (.cells #[.int .i64 a] 2)).alloc (.cells #[.int .i64 b] 2)) (.cells #[.int .i64 c] 2)
    rwa [World.size_alloc, World.size_alloc] at this
theorem Fr3.cells {B : Nat} {a b c : Int} {W : World} (h : Fr3 B a b c W) : (W.cell? ⟨B, 0, none⟩ = some (.int .i64 a) ∧ W.frozen? ⟨B, 0, none⟩ = false) ∧ (W.cell? ⟨B + 1, 0, none⟩ = some (.int .i64 b) ∧ W.frozen? ⟨B + 1, 0, none⟩ = false) ∧ (W.cell? ⟨B + 1 + 1, 0, none⟩ = some (.int .i64 c) ∧ W.frozen? ⟨B + 1 + 1, 0, none⟩ = false) :=
  ⟨⟨by rw [Lib.cell_of_heap h.r1]; rfl, Lib.frozen_of_heap h.r1 0⟩, ⟨by rw [Lib.cell_of_heap h.r2]; rfl, Lib.frozen_of_heap h.r2 0⟩, ⟨by rw [Lib.cell_of_heap h.r3]; rfl, Lib.frozen_of_heap h.r3 0⟩⟩
theorem Fr3.res {B : Nat} {a b c : Int} {W : World} (h : Fr3 B a b c W) (a' b' c' : Int) : Fr3 B a' b' c' (((W.setCell ⟨B, 0, none⟩ (.int .i64 a')).setCell ⟨B + 1, 0, none⟩ (.int .i64 b')).setCell ⟨B + 1 + 1, 0, none⟩ (.int .i64 c')) := by
  have h1 := heap_set_same (i := 0) (v := .int .i64 a') h.r1
  have h2 : (W.setCell ⟨B, 0, none⟩ (.int .i64 a')).heap[B + 1]? = some (.cells #[.int .i64 b] 2 (0, 0)) := (heap_set_other (by omega)).trans h.r2
  have h2' := heap_set_same (i := 0) (v := .int .i64 b') h2
  have h3 : ((W.setCell ⟨B, 0, none⟩ (.int .i64 a')).setCell ⟨B + 1, 0, none⟩ (.int .i64 b')).heap[B + 2]? = some (.cells #[.int .i64 c] 2 (0, 0)) := ((heap_set_other (by omega)).trans (heap_set_other (by omega))).trans h.r3
  refine ⟨?_, ?_, heap_set_same h3⟩
  · rw [heap_set_other (by omega), heap_set_other (by omega)]; exact h1
  · rw [heap_set_other (by omega)]; exact h2'
theorem fr_results {B : Nat} {a b c : Int} {W : World} (h : Fr3 B a b c W) {tm : Array Value} (h2 : tm[2]?.getD undef = .pointer (some ⟨B, 0, none⟩)) (h3 : tm[3]?.getD undef = .pointer (some ⟨B + 1, 0, none⟩)) (h4 : tm[4]?.getD undef = .pointer (some ⟨B + 1 + 1, 0, none⟩)) :
    (results Tryz.f9 tm).run Tryz.prog W = .ok (.tuple #[.int .i64 a, .int .i64 b, .int .i64 c]) W := by
  obtain ⟨⟨c0, _⟩, ⟨c1, _⟩, ⟨c2, _⟩⟩ := h.cells
  simp [results, Tryz.f9, go_sem, h2, h3, h4, c0, c1, c2]
theorem set3_keeps (W : World) (B : Nat) (a b c : Value) : KeepsOthers W (((W.setCell ⟨B, 0, none⟩ a).setCell ⟨B + 1, 0, none⟩ b).setCell ⟨B + 1 + 1, 0, none⟩ c) :=
  ((KeepsOthers.setCell _ _ _).trans (KeepsOthers.setCell _ _ _)).trans (KeepsOthers.setCell _ _ _)
theorem set3_below {n₀ : Nat} {W0 W : World} (h : Below n₀ W0 W) {B : Nat} (hB : n₀ ≤ B) (a b c : Value) : Below n₀ W0 (((W.setCell ⟨B, 0, none⟩ a).setCell ⟨B + 1, 0, none⟩ b).setCell ⟨B + 1 + 1, 0, none⟩ c) :=
  ((h.setCell (p := ⟨B, 0, none⟩) hB _).setCell (p := ⟨B + 1, 0, none⟩) (by show n₀ ≤ B + 1; omega) _).setCell (p := ⟨B + 1 + 1, 0, none⟩) (by show n₀ ≤ B + 1 + 1; omega) _

structure FrP (B : Nat) (p q : Int) (W : World) : Prop where
  r : Fr3 B 0 0 0 W
  p : W.heap[B + 3]? = some (.cells #[.int .i64 p] 2 (0, 0))
  q : W.heap[B + 4]? = some (.cells #[.int .i64 q] 2 (0, 0))
theorem FrP.keep {B : Nat} {p q : Int} {A W : World} {row : Option Nat} (h : FrP B p q A) (hg : A.grownBy W row) (hr : ∀ r, row = some r → ∃ o : Obj, A.heap[r]? = some o ∧ o.isCells = false) : FrP B p q W :=
  ⟨h.r.keep hg hr, (grownBy_keeps_cells hg hr h.p rfl).trans h.p, (grownBy_keeps_cells hg hr h.q rfl).trans h.q⟩
theorem FrP.step {B : Nat} {p q : Int} {W : World} (h : FrP B p q W) (p' q' : Int) : FrP B p' q' ((W.setCell ⟨B + 3, 0, none⟩ (.int .i64 p')).setCell ⟨B + 3 + 1, 0, none⟩ (.int .i64 q')) := by
  have hp := heap_set_same (i := 0) (v := .int .i64 p') h.p
  have hq : (W.setCell ⟨B + 3, 0, none⟩ (.int .i64 p')).heap[B + 4]? = some (.cells #[.int .i64 q] 2 (0, 0)) := (heap_set_other (by omega)).trans h.q
  refine ⟨⟨?_, ?_, ?_⟩, ?_, heap_set_same hq⟩
  · rw [heap_set_other (by omega), heap_set_other (by omega)]; exact h.r.r1
  · rw [heap_set_other (by omega), heap_set_other (by omega)]; exact h.r.r2
  · rw [heap_set_other (by omega), heap_set_other (by omega)]; exact h.r.r3
  · rw [heap_set_other (by omega)]; exact hp
theorem FrP.cells {B : Nat} {p q : Int} {W : World} (h : FrP B p q W) : (W.cell? ⟨B + 3, 0, none⟩ = some (.int .i64 p) ∧ W.frozen? ⟨B + 3, 0, none⟩ = false) ∧ (W.cell? ⟨B + 3 + 1, 0, none⟩ = some (.int .i64 q) ∧ W.frozen? ⟨B + 3 + 1, 0, none⟩ = false) :=
  ⟨⟨by rw [Lib.cell_of_heap h.p]; rfl, Lib.frozen_of_heap h.p 0⟩, ⟨by rw [Lib.cell_of_heap h.q]; rfl, Lib.frozen_of_heap h.q 0⟩⟩
theorem frp_alloc {B : Nat} {w3 : World} (h : Fr3 B 0 0 0 w3) (hs : w3.heap.size = B + 3) (s : Value) : FrP B 1 0 (((w3.alloc (.cells #[.int .i64 1] 2)).alloc (.cells #[.int .i64 0] 2)).alloc (.cells #[s] 26)) ∧
    (((w3.alloc (.cells #[.int .i64 1] 2)).alloc (.cells #[.int .i64 0] 2)).alloc (.cells #[s] 26)).heap[B + 5]? = some (.cells #[s] 26 (0, 0)) := by
  refine ⟨⟨⟨?_, ?_, ?_⟩, ?_, ?_⟩, ?_⟩
  · rw [Below.heap_alloc _ _ _ (by simp <;> omega), Below.heap_alloc _ _ _ (by simp <;> omega), Below.heap_alloc _ _ _ (by omega)]; exact h.r1
  · rw [Below.heap_alloc _ _ _ (by simp <;> omega), Below.heap_alloc _ _ _ (by simp <;> omega), Below.heap_alloc _ _ _ (by omega)]; exact h.r2
  · rw [Below.heap_alloc _ _ _ (by simp <;> omega), Below.heap_alloc _ _ _ (by simp <;> omega), Below.heap_alloc _ _ _ (by omega)]; exact h.r3
  · rw [Below.heap_alloc _ _ _ (by simp <;> omega), Below.heap_alloc _ _ _ (by simp <;> omega)]
    have := World.alloc_heap_new w3 (.cells #[.int .i64 1] 2)
    rwa [hs] at this
  · rw [Below.heap_alloc _ _ _ (by simp <;> omega)]
    have := World.alloc_heap_new (w3.alloc (.cells #[.int .i64 1] 2)) (.cells #[.int .i64 0] 2)
    rwa [World.size_alloc, hs] at this
  · have := World.alloc_heap_new ((w3.alloc (.cells #[.int .i64 1] 2)).alloc (.cells #[.int .i64 0] 2)) (.cells #[s] 26)
    rwa [World.size_alloc, World.size_alloc, hs] at this

set_option maxRecDepth 100000 in
set_option maxHeartbeats 4000000 in
theorem frac_w (ab cap : Nat) (zs : List Int) (hreach : zs.length ≤ 1048576) (w : World) (hb : ab < w.heap.size) (hI : ∀ j, j < zs.length → w.cell? ⟨ab, j, none⟩ = some (.int .i64 (zs.getD j 0))) :
    CallsIn Fence.wide 3 Tryz.prog 9 #[.slice (some ⟨ab, 0, none⟩) zs.length cap] w fun e W' => e = .returned (frW zs) ∧ Below w.heap.size w W' := by
  have h1 : 1 ≤ 3 := by omega
  have hro : Fence.wide.round = none := rfl
  refine callsIn_of_wp_marks Tryz.func9 rfl trivial ?_ hro
  simp only [Tryz.ntmps9, List.size_toArray, List.length_cons, List.length_nil, Nat.reduceAdd, Nat.reduceSub, Array.replicate_succ, Array.replicate_zero, List.push_toArray, List.append_toArray, List.nil_append, List.cons_append]
  have hbel0 : ∀ a b c, Below w.heap.size w (((w.alloc (.cells #[.int .i64 a] 2)).alloc (.cells #[.int .i64 b] 2)).alloc (.cells #[.int .i64 c] 2)) := fun a b c => (((Below.refl _ w).alloc (Nat.le_refl _) _).alloc (by simp) _).alloc (by simp <;> omega) _
  gi_wp2_with (refine ⟨trivial, ?_⟩; gi_at_call 44; refine (callsIn_wide.2 (in_w _ _ _ _)).mono ?_; rintro e w' ⟨rfl, rfl⟩)
  · rename_i hq _ _
    have hbad : fBad zs := .inl (by simp only [Bool.not_eq_true', Bool.or_eq_true, decide_eq_true_eq, decide_eq_false_iff_not, Bool.and_eq_true, Bool.not_eq_false', Bool.or_eq_false_iff] at *; omega)
    refine ⟨_, fr_results (fr3_alloc w 0 0 2) rfl rfl rfl, ?_, hbel0 _ _ _⟩
    unfold frW; rw [if_pos hbad]
  · rename_i hq
    have hlen : 1 ≤ zs.length ∧ zs.length ≤ 60 := by
      clear hbel0 hI
      simp only [Bool.not_eq_true', Bool.or_eq_true, decide_eq_true_eq, decide_eq_false_iff_not, Bool.and_eq_true, Bool.not_eq_false', Bool.or_eq_false_iff] at *
      omega
    have hbel3 := hbel0 0 0 0
    have hfr := fr3_alloc w 0 0 0
    have hsz : (((w.alloc (.cells #[.int .i64 0] 2)).alloc (.cells #[.int .i64 0] 2)).alloc (.cells #[.int .i64 0] 2)).heap.size = w.heap.size + 3 := by simp
    obtain ⟨w3, hw3⟩ : ∃ w3, ((w.alloc (.cells #[.int .i64 0] 2)).alloc (.cells #[.int .i64 0] 2)).alloc (.cells #[.int .i64 0] 2) = w3 := ⟨_, rfl⟩
    rw [hw3] at hbel3 hfr hsz ⊢
    have e14 : (!decide (1 ≤ (zs.length : Int)) || !decide ((zs.length : Int) ≤ 60)) = false := by simp; omega
    rw [e14]
    gi_loop [17] (fun i => ∃ k : Nat, k ≤ zs.length ∧ i = .int .i64 k ∧ fAll zs k) (fun i => zs.length - (intOf i).toNat)
    case atStart => exact ⟨0, Nat.zero_le _, rfl, fun i hi => absurd hi (by omega)⟩
    case round =>
      obtain ⟨k, hk, rfl, hAll⟩ := hrel
      have hcell : k < zs.length → w3.cell? ⟨ab, k, none⟩ = some (.int .i64 (zs.getD k 0)) := fun h => (hbel3.cell (p := ⟨ab, k, none⟩) hb).trans (hI k h)
      obtain ⟨⟨c1, c2⟩, ⟨c3, c4⟩, ⟨c5, c6⟩⟩ := hfr.cells
      gi_wp2_with (refine ⟨trivial, ?_⟩; first | (gi_at_call 45; refine (callsIn_wide.2 (co_w _ _)).mono ?_; rintro e w' ⟨rfl, rfl⟩) | (gi_at_call 46; refine (back_in Fence.wide 2 trivial rfl _ _ _ _).mono ?_; rintro e w' ⟨rfl, rfl⟩))
      · rename_i ho hk0 hx
        have hlt : k < zs.length := by assumption
        have hg : zs.getD k 0 = zs[k] := by simp [List.getD, hlt]
        have hbad : fBad zs := .inr ⟨k, hlt, by rw [hg]; simp [fOk, ho]; omega⟩
        refine ⟨_, fr_results (hfr.res 0 0 2) rfl rfl rfl, ?_, set3_below hbel3 (Nat.le_refl _) _ _ _⟩
        unfold frW; rw [if_pos hbad]
      · rename_i ho hk0 hx
        have hlt : k < zs.length := by assumption
        have hg : zs.getD k 0 = zs[k] := by simp [List.getD, hlt]
        go_round
        case rel =>
          refine ⟨k + 1, by omega, by go_num, fun i hi => ?_⟩
          by_cases e : i = k
          · subst e; rw [hg]; simp [fOk, ho]; omega
          · exact hAll i (by omega)
        case measure => simp [intOf]; omega
      · rename_i ho hk0
        have hlt : k < zs.length := by assumption
        have hg : zs.getD k 0 = zs[k] := by simp [List.getD, hlt]
        go_round
        case rel =>
          refine ⟨k + 1, by omega, by go_num, fun i hi => ?_⟩
          by_cases e : i = k
          · subst e; rw [hg]; simp [fOk, ho]; omega
          · exact hAll i (by omega)
        case measure => simp [intOf]; omega
      · rename_i ho
        have hlt : k < zs.length := by assumption
        have hg : zs.getD k 0 = zs[k] := by simp [List.getD, hlt]
        have hbad : fBad zs := .inr ⟨k, hlt, by rw [hg]; simp [fOk, ho]⟩
        refine ⟨_, fr_results (hfr.res 0 0 2) rfl rfl rfl, ?_, set3_below hbel3 (Nat.le_refl _) _ _ _⟩
        unfold frW; rw [if_pos hbad]
      · have hge : ¬ k < zs.length := by assumption
        obtain rfl : k = zs.length := by omega
        have hgood : ¬ fBad zs := by
          rintro (h | ⟨i, hi, h⟩)
          · exact h hlen
          · rw [hAll i hi] at h; cases h
        obtain ⟨hat, hsl⟩ := frp_alloc hfr hsz (.slice (some ⟨ab, 0, none⟩) zs.length cap)
        obtain ⟨W1, hW1⟩ : ∃ W1, ((w3.alloc (.cells #[.int .i64 1] 2)).alloc (.cells #[.int .i64 0] 2)).alloc (.cells #[.slice (some ⟨ab, 0, none⟩) zs.length cap] 26) = W1 := ⟨_, rfl⟩
        have hbel : Below w.heap.size w W1 := by
          rw [← hW1]; exact ((hbel3.alloc (by omega) _).alloc (by simp <;> omega) _).alloc (by simp <;> omega) _
        have hsz1 : W1.heap.size = w.heap.size + 6 := by rw [← hW1]; simp [hsz]
        have e5 : ((w3.alloc (.cells #[.int .i64 1] 2)).alloc (.cells #[.int .i64 0] 2)).heap.size = w.heap.size + 5 := by simp [hsz]
        try rw [e5]
        rw [hW1] at hat hsl
        try rw [hW1]
        clear hW1 e5
        refine wpIn_rangeFunc_ownF (w := W1) hro h1 (gf := 80) (lb := #[.pointer (some ⟨w.heap.size + 5, 0, none⟩)]) rfl trivial (enters_of Tryz.func80 (by kernel_rfl) rfl)
          (back_stops Fence.wide 2 trivial rfl (by omega) (w.heap.size + 5) w.heap.size ab cap zs hreach _ (by rw [hsz1]; omega) (by rw [hsz1]; omega) hb (by rw [Lib.cell_of_heap hsl]; rfl) (fun j hj => (hbel.cell (p := ⟨ab, j, none⟩) hb).trans (hI j hj)))
          keepB_t (keepB_b (by rw [hsz1]; omega)) (Below.refl _ _) (fun _ => rfl)
          (fun pre W => (∃ p q, fgo (pre.map Prod.snd) 1 0 = some (p, q) ∧ FrP w.heap.size p q W) ∧ Below w.heap.size w W)
          (fun c pre W => ((c = .ret ∧ fgo (pre.map Prod.snd) 1 0 = none) ∧ Fr3 w.heap.size 0 0 3 W) ∧ Below w.heap.size w W)
          (OwnFrom.and (Own.from (fun s A B row hs hg hr => by obtain ⟨p, q, e1, e2⟩ := hs; exact ⟨p, q, e1, e2.keep hg hr⟩) _) (ownFrom_below (Nat.le_refl _) (by rw [hsz1]; omega)))
          (fun c => OwnFrom.and (Own.from (fun s A B row hs hg hr => ⟨hs.1, hs.2.keep hg hr⟩) _) (ownFrom_below (Nat.le_refl _) (by rw [hsz1]; omega)))
          ⟨⟨1, 0, rfl, hat⟩, hbel⟩
          ?fr ?assign ?body ?done ?stop
        case assign =>
          intro l x W K hK
          gi_wp2
          exact hK
        case body =>
          rintro l pre x W ⟨⟨p, q, hgo, hof⟩, hB⟩ _
          obtain ⟨⟨c1, c2⟩, ⟨c3, c4⟩⟩ := hof.cells
          obtain ⟨⟨d1, d2⟩, ⟨d3, d4⟩, ⟨d5, d6⟩⟩ := hof.r.cells
          have hst := hof.step (wrap64 (wrap64 (x.2 * p) + q)) p
          have hBs : ∀ (i v), Below w.heap.size w (W.setCell ⟨w.heap.size + i, 0, none⟩ v) := fun i v => hB.setCell (p := ⟨w.heap.size + i, 0, none⟩) (by show w.heap.size ≤ w.heap.size + i; omega) v
          have hB2 := (hBs 3 (.int .i64 (wrap64 (wrap64 (x.2 * p) + q)))).setCell (p := ⟨w.heap.size + 3 + 1, 0, none⟩) (by show w.heap.size ≤ w.heap.size + 3 + 1; omega) (.int .i64 p)
          have hgn : fgo ((pre ++ [x]).map Prod.snd) 1 0 = if (okCo (wrap64 (wrap64 (x.2 * p) + q)) && okCo p) = true then some (wrap64 (wrap64 (x.2 * p) + q), p) else none := by
            rw [List.map_append, fgo_app, hgo]
            simp [fgo]
          gi_wp2_with (refine ⟨trivial, ?_⟩; gi_at_call 45; refine (CallsIn.inRound l (callsIn_wide.2 (co_w _ _))).mono ?_; rintro e w' ⟨rfl, rfl⟩)
          · rename_i ho1 ho2
            refine ⟨((KeepsOthers.setCell _ _ _).trans (KeepsOthers.setCell _ _ _)).trans (set3_keeps _ _ _ _ _), ⟨⟨rfl, ?_⟩, hst.r.res 0 0 3⟩, set3_below hB2 (Nat.le_refl _) _ _ _⟩
            rw [hgn, if_neg (by simp only [Bool.not_eq_true'] at ho2; simp [ho2])]
          · rename_i ho1 ho2
            have hK2 := ((Below.refl w.heap.size W).setCell (p := ⟨w.heap.size + 3, 0, none⟩) (by show w.heap.size ≤ w.heap.size + 3; omega) (.int .i64 (wrap64 (wrap64 (x.2 * p) + q)))).setCell (p := ⟨w.heap.size + 3 + 1, 0, none⟩) (by show w.heap.size ≤ w.heap.size + 3 + 1; omega) (.int .i64 p)
            refine ⟨(KeepsOthers.setCell _ _ _).trans (KeepsOthers.setCell _ _ _), ⟨hK2, fun v hv => ?_⟩, ⟨_, _, ?_, hst⟩, hB2⟩
            · exact (World.cell?_of_block (by rw [heap_set_other (by show w.heap.size + 5 ≠ _; omega), heap_set_other (by show w.heap.size + 5 ≠ _; omega)])).trans hv
            · rw [hgn, if_pos (by simp only [Bool.not_eq_false'] at ho2; simp [ho1, ho2])]
          · rename_i ho1 K ha
            refine ⟨trivial, ?_⟩
            gi_wp2
            refine ⟨((KeepsOthers.setCell _ _ _).trans (KeepsOthers.setCell _ _ _)).trans (set3_keeps _ _ _ _ _), ⟨⟨rfl, ?_⟩, hst.r.res 0 0 3⟩, set3_below hB2 (Nat.le_refl _) _ _ _⟩
            rw [hgn, if_neg (by simp only [Bool.not_eq_true] at ho1; simp [ho1])]
        case done =>
          rintro D ys W hD rfl ⟨⟨p, q, hgo, hof⟩, hB⟩ hK
          obtain ⟨⟨c1, c2⟩, ⟨c3, c4⟩⟩ := hof.cells
          obtain ⟨⟨d1, d2⟩, ⟨d3, d4⟩, ⟨d5, d6⟩⟩ := hof.r.cells
          rw [upto_snd zs (Nat.le_refl _), List.take_of_length_le (by simp)] at hgo
          have hDn : w.heap.size ≤ D := by rw [hsz1] at hD; omega
          gi_wp2
          gi_region
          gi_wp2
          have hK' := (set3_keeps W w.heap.size (.int .i64 p) (.int .i64 q) (.int .i64 0)).same D _ hK rfl
          have hrs := hof.r.res p q 0
          have hbd := set3_below hB (Nat.le_refl _) (.int .i64 p) (.int .i64 q) (.int .i64 0)
          obtain ⟨W2, hW2⟩ : ∃ W2, (((W.setCell ⟨w.heap.size, 0, none⟩ (.int .i64 p)).setCell ⟨w.heap.size + 1, 0, none⟩ (.int .i64 q)).setCell ⟨w.heap.size + 1 + 1, 0, none⟩ (.int .i64 0)) = W2 := ⟨_, rfl⟩
          rw [hW2] at hK' hrs hbd ⊢
          have hrd : Fr3 w.heap.size p q 0 W2.drew := ⟨hrs.r1, hrs.r2, hrs.r3⟩
          have hKd : W2.drew.heap[D]? = some (.deferred (some [])) := hK'
          refine ⟨by simp, .inl ⟨_, _, rfl, run_takeDeferred hKd, ?_⟩⟩
          refine ⟨_, fr_results (hrd.keep (grownBy_putObj' _ D (.deferred none)) (fun r e => by cases e; exact ⟨_, hKd, rfl⟩)) rfl rfl rfl, ?_, hbd.drew.trans (belowK_b (w := w) (Nat.le_refl _) _ D _ _ hDn hKd rfl rfl)⟩
          unfold frW; rw [if_neg hgood, hgo]
        case stop =>
          rintro D c pre W hD ⟨j, hj, rfl⟩ ⟨⟨⟨rfl, hgo⟩, hres⟩, hB⟩ hK
          rw [upto_snd zs hj] at hgo
          have hgo' : fgo zs.reverse 1 0 = none := by
            rw [← List.take_append_drop j zs.reverse, fgo_app, hgo]; rfl
          have hDn : w.heap.size ≤ D := by rw [hsz1] at hD; omega
          gi_wp2
          refine ⟨by simp, .inl ⟨_, _, rfl, run_takeDeferred hK, ?_⟩⟩
          refine ⟨_, fr_results (hres.keep (grownBy_putObj' _ D (.deferred none)) (fun r e => by cases e; exact ⟨_, hK, rfl⟩)) rfl rfl rfl, ?_, hB.trans (belowK_b (w := w) (Nat.le_refl _) _ D _ _ hDn hK rfl rfl)⟩
          unfold frW; rw [if_neg hgood, hgo']

theorem okCo_eq (x : Int) : okCo x = isCoordF x := by
  unfold okCo isCoordF inF
  rfl
theorem fgo_eq : ∀ (vs : List Int) (p q : Int), fgo vs p q = frG vs p q
  | [], p, q => rfl
  | c :: vs, p, q => by rw [fgo, frG, okCo_eq, okCo_eq, w64_eq, w64_eq, fgo_eq vs]
theorem il_getD (xs : List Int) (j : Nat) (h : j < xs.length) : (il xs)[j]? = some (.int .i64 (xs.getD j 0)) := by
  simp [il, List.getD, h]
theorem plain_all {l : List Value} (h : Plain l) : allL plain0 l = true := by
  induction l with
  | nil => rfl
  | cons v l ih => unfold allL; rw [h v (by simp)]; exact ih fun u hu => h u (by simp [hu])
theorem fBad_iff (xs : List Int) : fBad xs ↔ frB xs = false := by
  have hB : frB xs = true ↔ (1 ≤ xs.length ∧ xs.length ≤ 60) ∧ (∀ x ∈ xs, isCoordF x = true) ∧ ∀ x ∈ xs.drop 1, 1 ≤ x := by
    simp only [frB, Bool.and_eq_true, decide_eq_true_eq, List.all_eq_true, Bool.not_eq_true', List.any_eq_false]
    constructor
    · rintro ⟨⟨h1, h2⟩, h3⟩
      exact ⟨h1, h2, fun x hx => by have := h3 x hx; simp only [lowP, decide_eq_true_eq] at this; omega⟩
    · rintro ⟨h1, h2, h3⟩
      exact ⟨⟨h1, h2⟩, fun x hx => by have := h3 x hx; simp only [lowP, decide_eq_true_eq]; omega⟩
  have hn : frB xs = false ↔ ¬ frB xs = true := by simp
  rw [hn, hB]
  constructor
  · rintro (h | ⟨i, hi, h⟩) ⟨g1, g2, g3⟩
    · exact h g1
    · have hm : xs.getD i 0 ∈ xs := getD_mem hi
      have := g2 _ hm
      rw [fOk, okCo_eq, this] at h
      simp only [Bool.true_and, Bool.or_eq_false_iff, decide_eq_false_iff_not] at h
      refine h.2 (g3 _ ?_)
      obtain ⟨j, rfl⟩ : ∃ j, i = j + 1 := ⟨i - 1, by omega⟩
      have : xs.getD (j + 1) 0 = (xs.drop 1).getD j 0 := by simp [List.getD, Nat.add_comm]
      rw [this]
      exact getD_mem (by rw [List.length_drop]; omega)
  · intro h
    by_cases h1 : 1 ≤ xs.length ∧ xs.length ≤ 60
    · refine .inr ?_
      apply Classical.byContradiction
      intro hno
      have hall : ∀ i, i < xs.length → fOk i (xs.getD i 0) = true := fun i hi => by
        cases hk : fOk i (xs.getD i 0)
        · exact absurd ⟨i, hi, hk⟩ hno
        · rfl
      refine h ⟨h1, fun x hx => ?_, fun x hx => ?_⟩
      · obtain ⟨i, hi, rfl⟩ := List.getElem_of_mem hx
        have := hall i hi
        rw [show xs.getD i 0 = xs[i] by simp [List.getD, hi]] at this
        simp only [fOk, okCo_eq, Bool.and_eq_true] at this
        exact this.1
      · obtain ⟨i, hi, rfl⟩ := List.getElem_of_mem hx
        rw [List.length_drop] at hi
        have := hall (i + 1) (by omega)
        rw [List.getElem_drop]
        have hq : i + 1 < xs.length := by omega
        rw [show xs.getD (i + 1) 0 = xs[1 + i]'(by omega) by simp [List.getD, hq, Nat.add_comm]] at this
        simp only [fOk, Bool.and_eq_true, Bool.or_eq_true, decide_eq_true_eq] at this
        rcases this.2 with h | h
        · omega
        · exact h
    · exact .inl h1
theorem c_FractionOf {xs : List Int} {sp : List Value} {n c : Nat} (h1 : Row (il xs) sp n c 1) (hn : n ≤ 1048576) : CallR Tryz.prog n_impl_FractionOf [.slice (some ⟨0, 0, none⟩) n c] [il xs ++ sp] (.tuple #[ii (frV xs).1, ii (frV xs).2.1, ii (frV xs).2.2]) := by
  obtain rfl := row_il h1
  have e : frW xs = .tuple #[ii (frV xs).1, ii (frV xs).2.1, ii (frV xs).2.2] := by
    unfold frW frV
    cases hb : frB xs
    · rw [if_pos ((fBad_iff xs).2 hb)]; rfl
    · rw [if_neg (fun hq => by rw [fBad_iff, hb] at hq; cases hq), fgo_eq, if_pos rfl]
      cases frG xs.reverse 1 0 <;> rfl
  refine ⟨fn_impl_FractionOf.enters, rfl, fun w ρ0 hlw hro hlt => ?_⟩
  obtain ⟨k1, k2, k3⟩ := hro.at_ 0 _ rfl
  have := callsIn_wide.1 (frac_w (ρ0.getD 0 0) c xs hn w k1 fun j hj => k2 j (.int .i64 (xs.getD j 0)) (by rw [List.getElem?_append_left (by rw [il_len]; exact hj)]; exact il_getD xs j hj))
  rw [e] at this
  exact this

end Go.Proofs.YtlkbfpklhncfbaaGreatDoor
end

section
/-
  Contracts of functions of the program (printed by a program of this work; Lean checks each).
  Conditions: as each contract states.
-/
namespace Go.Proofs.YtlkbfpklhncfbaaGreatDoor
open Go.Ev Go.RowKit
set_option maxRecDepth 100000
set_option linter.unusedVariables false
set_option linter.unusedSimpArgs false

attribute [local irreducible] frB frG

theorem c_spec_FractionOf_ok {xs : List Int} {sp : List Value} {n c : Nat} {P R : Int} (h1 : Row (il xs) sp n c 1) (hn : n ≤ 1048576) (hB : frB xs = true) (hf : frG xs.reverse 1 0 = some (P, R)) : CallOK Tryz.prog n_spec_FractionOf [.slice (some ⟨0, 0, none⟩) n c] [(il xs ++ sp, none)] (fun v m_ => v = .tuple #[ii P, ii R, ii 0] ∧ m_ = [(il xs ++ sp, none)]) := by
  refine callOK_ofF good fn_spec_FractionOf ?_
  conv => whnf
  all_goals (repeat' first
    | (refine CallOK.useR (c_l01List h1 hn) [_] rfl rfl rfl ⟨⟨⟨_, rfl, .plain rfl (fun _ h_ => by cases h_) (Row.all h1)⟩⟩, trivial⟩ (fun v_ mem_ hR => ?_); obtain ⟨rfl, rfl⟩ := hR; refine ⟨rfl, ?_⟩; conv => whnf)
    | (refine CallOK.useR (c_foldG_ok h1 hn hB hf) [_] rfl rfl rfl ⟨⟨⟨_, rfl, .plain rfl (fun _ h_ => by cases h_) (Row.all h1)⟩⟩, trivial⟩ (fun v_ mem_ hR => ?_); obtain ⟨rfl, rfl⟩ := hR; refine ⟨rfl, ?_⟩; conv => whnf)
    | (exact out_forget [] ⟨rfl, rfl⟩ rfl (okB2_spec rfl) ⟨⟨⟨_, rfl, .plain rfl rfl (Row.all h1)⟩⟩, trivial⟩ rfl rfl)
    | (refine StoreK.mk rfl ?_; conv => whnf)
    | exact join_same
    | exact (by assumption : (_ : Bool) = (_ : Bool))
    | (refine br_true (by assumption) ?_; conv => whnf)
    | (refine br_false (by assumption) ?_; conv => whnf)
    | (refine br_not ?_; conv => whnf)
    | (refine br_code ?_; conv => whnf)
    | (with_reducible refine br_and ?_; conv => whnf)
    | (with_reducible refine br_or ?_; conv => whnf)
    | (refine br_eq2 ?_; conv => whnf)
    | (refine draw_auto (by decide +kernel) ?_; conv => whnf)
    | (refine draw_asg (by decide +kernel) ?_; conv => whnf)
    | (refine draw_st (by decide +kernel) ?_; conv => whnf)
    | (refine draw_call (by decide +kernel) ?_; conv => whnf)
    | (refine enter_same (loop_n 12 ?_); conv => whnf)
    | (refine next_same ?_; conv => whnf)
    | (refine mapK_row (by assumption) ?_; conv => whnf)
    | (refine mapK_plain (Plain.of rfl) ?_; conv => whnf)
    | (refine mapK_lit ?_; conv => whnf)
    | (refine br_split (fun _ => ?_) (fun _ => ?_) <;> conv => whnf)
    | exact (rfl : (_ : Value) = _)
    | (simp only [*]; exact (rfl : (_ : Value) = _))
    | (simp [*]; done))

theorem c_spec_FractionOf_no {xs : List Int} {sp : List Value} {n c : Nat} (h1 : Row (il xs) sp n c 1) (hn : n ≤ 1048576) (hB : frB xs = true) (hf : frG xs.reverse 1 0 = none) : CallOK Tryz.prog n_spec_FractionOf [.slice (some ⟨0, 0, none⟩) n c] [(il xs ++ sp, none)] (fun v m_ => v = .tuple #[ii 0, ii 0, ii 3] ∧ m_ = [(il xs ++ sp, none)]) := by
  refine callOK_ofF good fn_spec_FractionOf ?_
  conv => whnf
  all_goals (repeat' first
    | (refine CallOK.useR (c_l01List h1 hn) [_] rfl rfl rfl ⟨⟨⟨_, rfl, .plain rfl (fun _ h_ => by cases h_) (Row.all h1)⟩⟩, trivial⟩ (fun v_ mem_ hR => ?_); obtain ⟨rfl, rfl⟩ := hR; refine ⟨rfl, ?_⟩; conv => whnf)
    | (refine CallOK.useR (c_foldG_no h1 hn hB hf) [_] rfl rfl rfl ⟨⟨⟨_, rfl, .plain rfl (fun _ h_ => by cases h_) (Row.all h1)⟩⟩, trivial⟩ (fun v_ mem_ hR => ?_); obtain ⟨rfl, rfl⟩ := hR; refine ⟨rfl, ?_⟩; conv => whnf)
    | (exact out_forget [] ⟨rfl, rfl⟩ rfl (okB2_spec rfl) ⟨⟨⟨_, rfl, .plain rfl rfl (Row.all h1)⟩⟩, trivial⟩ rfl rfl)
    | (refine StoreK.mk rfl ?_; conv => whnf)
    | exact join_same
    | exact (by assumption : (_ : Bool) = (_ : Bool))
    | (refine br_true (by assumption) ?_; conv => whnf)
    | (refine br_false (by assumption) ?_; conv => whnf)
    | (refine br_not ?_; conv => whnf)
    | (refine br_code ?_; conv => whnf)
    | (with_reducible refine br_and ?_; conv => whnf)
    | (with_reducible refine br_or ?_; conv => whnf)
    | (refine br_eq2 ?_; conv => whnf)
    | (refine draw_auto (by decide +kernel) ?_; conv => whnf)
    | (refine draw_asg (by decide +kernel) ?_; conv => whnf)
    | (refine draw_st (by decide +kernel) ?_; conv => whnf)
    | (refine draw_call (by decide +kernel) ?_; conv => whnf)
    | (refine enter_same (loop_n 12 ?_); conv => whnf)
    | (refine next_same ?_; conv => whnf)
    | (refine mapK_row (by assumption) ?_; conv => whnf)
    | (refine mapK_plain (Plain.of rfl) ?_; conv => whnf)
    | (refine mapK_lit ?_; conv => whnf)
    | (refine br_split (fun _ => ?_) (fun _ => ?_) <;> conv => whnf)
    | exact (rfl : (_ : Value) = _)
    | (simp only [*]; exact (rfl : (_ : Value) = _))
    | (simp [*]; done))

theorem c_spec_FractionOf_bad {xs : List Int} {sp : List Value} {n c : Nat} (h1 : Row (il xs) sp n c 1) (hn : n ≤ 1048576) (hB : frB xs = false) : CallOK Tryz.prog n_spec_FractionOf [.slice (some ⟨0, 0, none⟩) n c] [(il xs ++ sp, none)] (fun v m_ => v = .tuple #[ii 0, ii 0, ii 2] ∧ m_ = [(il xs ++ sp, none)]) := by
  refine callOK_ofF good fn_spec_FractionOf ?_
  conv => whnf
  all_goals (repeat' first
    | (refine CallOK.useR (c_l01List h1 hn) [_] rfl rfl rfl ⟨⟨⟨_, rfl, .plain rfl (fun _ h_ => by cases h_) (Row.all h1)⟩⟩, trivial⟩ (fun v_ mem_ hR => ?_); obtain ⟨rfl, rfl⟩ := hR; refine ⟨rfl, ?_⟩; conv => whnf)
    | (exact out_forget [] ⟨rfl, rfl⟩ rfl (okB2_spec rfl) ⟨⟨⟨_, rfl, .plain rfl rfl (Row.all h1)⟩⟩, trivial⟩ rfl rfl)
    | (refine StoreK.mk rfl ?_; conv => whnf)
    | exact join_same
    | exact (by assumption : (_ : Bool) = (_ : Bool))
    | (refine br_true (by assumption) ?_; conv => whnf)
    | (refine br_false (by assumption) ?_; conv => whnf)
    | (refine br_not ?_; conv => whnf)
    | (refine br_code ?_; conv => whnf)
    | (with_reducible refine br_and ?_; conv => whnf)
    | (with_reducible refine br_or ?_; conv => whnf)
    | (refine br_eq2 ?_; conv => whnf)
    | (refine draw_auto (by decide +kernel) ?_; conv => whnf)
    | (refine draw_asg (by decide +kernel) ?_; conv => whnf)
    | (refine draw_st (by decide +kernel) ?_; conv => whnf)
    | (refine draw_call (by decide +kernel) ?_; conv => whnf)
    | (refine enter_same (loop_n 12 ?_); conv => whnf)
    | (refine next_same ?_; conv => whnf)
    | (refine mapK_row (by assumption) ?_; conv => whnf)
    | (refine mapK_plain (Plain.of rfl) ?_; conv => whnf)
    | (refine mapK_lit ?_; conv => whnf)
    | (refine br_split (fun _ => ?_) (fun _ => ?_) <;> conv => whnf)
    | exact (rfl : (_ : Value) = _)
    | (simp only [*]; exact (rfl : (_ : Value) = _))
    | (simp [*]; done))

theorem c_spec_FractionOf {xs : List Int} {sp : List Value} {n c : Nat} (h1 : Row (il xs) sp n c 1) (hn : n ≤ 1048576) : CallOK Tryz.prog n_spec_FractionOf [.slice (some ⟨0, 0, none⟩) n c] [(il xs ++ sp, none)] (fun v m_ => v = .tuple #[ii (frV xs).1, ii (frV xs).2.1, ii (frV xs).2.2] ∧ m_ = [(il xs ++ sp, none)]) := by
  unfold frV
  cases hB : frB xs
  · exact c_spec_FractionOf_bad h1 hn hB
  · rw [if_pos rfl]
    cases hf : frG xs.reverse 1 0 with
    | none => exact c_spec_FractionOf_no h1 hn hB hf
    | some s => exact c_spec_FractionOf_ok h1 hn hB hf

end Go.Proofs.YtlkbfpklhncfbaaGreatDoor
end
