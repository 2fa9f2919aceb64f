/-
  Contracts of functions of the program (printed by a program of this work; Lean checks each).
  Conditions: as each contract states.
-/
import Derived.Test.YtgbnoaggnfjjgaaK9
import Derived.Test.YtgbnoaggnfjjgaaSrc
import Derived.Test.YtgbnoaggnfjjgaaUseD
namespace Go.Proofs.Ytgbnoaggnfjjgaa
open Go.Ev Go.RowKit
set_option maxRecDepth 100000
set_option linter.unusedVariables false
set_option linter.unusedSimpArgs false

set_option maxHeartbeats 1000000 in
theorem c_From_L {zs : List Int} {off n c : Nat} (hz : n ≤ zs.length) (hb : ∀ z ∈ zs, IsByte z) (hn : n ≤ 4096) : CallOK Try.prog n_spec_l01From [.slice (some ⟨0, off, none⟩) n c] [(away off (bl zs), none)] (fun v m_ => ∃ h, v = .pointer (some ⟨1, 0, none⟩) ∧ m_ = [(away off (bl zs), none), ([.slice (some ⟨0, off, none⟩) n c, ii 0, wv h], some t_spec_l01Source)]) := by
  refine callOK_ofF good fn_spec_l01From ?_
  conv => whnf
  all_goals (repeat' first
    | (refine enter_forget [1] (loop_rec (fun (s : Int × Int) => match s with | (i, h) => [.slice (some ⟨0, off, none⟩) n c, wild, wild, .pointer (some ⟨1, 0, none⟩), ii i, wild, wild, wild, wild, wild, wild, wild, wild, wild, wild, wild, wild, wild, wild, wild, wild, wild, wild, wild, wild, wild, wild, wild, wild, wild, wild, wild, wild, wild, wild, wild, wild, wild]) (fun (s : Int × Int) => match s with | (i, h) => [(away off (bl zs), none), ([.slice (some ⟨0, off, none⟩) n c, ii 0, wv h], some t_spec_l01Source)]) (fun (s : Int × Int) => match s with | (i, h) => ((n : Int) - i).toNat) (fun (s : Int × Int) => match s with | (i, h) => 0 ≤ i ∧ i ≤ (n : Int)) (0, u64add 12971 (u64of (n : Int))) (by omega) ?_) (tmR_rfl rfl rfl) ⟨⟨⟨_, rfl, .lit (away_conc (bl_plain _) _).symm rfl (away_ok (bl_plain _) _)⟩⟩, ⟨⟨_, rfl, .lit rfl rfl (fun v hv => okB0_spec (allL_spec rfl v hv))⟩⟩, trivial⟩ rfl rfl; rintro fuel_ ⟨i, h⟩ hI IH; replace hI : 0 ≤ i ∧ i ≤ (n : Int) := hI; conv => whnf)
    | exact next_forget [1] (IH (w64 (i + 1), _) (idx_next hI (show decide (i < (n : Int)) = true by assumption) (by omega)) (idx_mu hI (show decide (i < (n : Int)) = true by assumption) (by omega))) (tmR_rfl rfl rfl) ⟨⟨⟨_, rfl, .lit (away_conc (bl_plain _) _).symm rfl (away_ok (bl_plain _) _)⟩⟩, ⟨⟨_, rfl, .lit rfl rfl (fun v hv => okB0_spec (allL_spec rfl v hv))⟩⟩, trivial⟩ rfl rfl
    | (refine br_in hI.1 (of_decide_eq_true (show decide (i < (n : Int)) = true by assumption)) ?_; conv => whnf)
    | (refine force_eq (take_bl (xs := zs) (i := i.toNat) rfl ?_ ?_) ?_; (focus (simp only [Nat.mul_one]; done)); (focus (have := hI.1; have := of_decide_eq_true (show decide (i < (n : Int)) = true by assumption); omega)); conv => whnf)
    | (show OutK _ _ _ _; exact out_forget [_] ⟨_, rfl, rfl⟩ rfl (okB2_spec rfl) ⟨⟨⟨_, rfl, .lit (away_conc (bl_plain _) _).symm rfl (away_ok (bl_plain _) _)⟩⟩, ⟨⟨_, rfl, .lit rfl rfl (fun v hv => okB0_spec (allL_spec rfl v hv))⟩⟩, trivial⟩ rfl rfl)
    | (refine StoreK.mk rfl ?_; conv => whnf)
    | exact join_same
    | exact (by assumption : (_ : Bool) = (_ : Bool))
    | (refine br_true (by assumption) ?_; conv => whnf)
    | (refine br_false (by assumption) ?_; conv => whnf)
    | (refine br_not ?_; conv => whnf)
    | (refine br_code ?_; conv => whnf)
    | (with_reducible refine br_and ?_; conv => whnf)
    | (with_reducible refine br_or ?_; conv => whnf)
    | (refine br_eq2 ?_; conv => whnf)
    | (refine draw_auto (by decide +kernel) ?_; conv => whnf)
    | (refine draw_asg (by decide +kernel) ?_; conv => whnf)
    | (refine draw_st (by decide +kernel) ?_; conv => whnf)
    | (refine draw_call (by decide +kernel) ?_; conv => whnf)
    | (refine enter_same (loop_n 12 ?_); conv => whnf)
    | (refine next_same ?_; conv => whnf)
    | (refine mapK_row (by assumption) ?_; conv => whnf)
    | (refine mapK_plain (Plain.of rfl) ?_; conv => whnf)
    | (refine mapK_lit ?_; conv => whnf)
    | (refine br_split (fun _ => ?_) (fun _ => ?_) <;> conv => whnf)
    | exact (rfl : (_ : Value) = _)
    | (simp only [*]; exact (rfl : (_ : Value) = _))
    | (simp [*]; done))

set_option maxHeartbeats 1000000 in
theorem c_Next_L {zs : List Int} {off n c : Nat} {o h m : Int} (hz : n ≤ zs.length) (hb : ∀ z ∈ zs, IsByte z) (hn : n ≤ 4096) (ha : SrcAt n o) : CallOK Try.prog n_spec_l01Next [.pointer (some ⟨1, 0, none⟩), ii m] [(away off (bl zs), none), ([.slice (some ⟨0, off, none⟩) n c, ii o, wv h], some t_spec_l01Source)] (fun v m_ => ∃ x o2 h2, Below1 m x ∧ SrcAt n o2 ∧ v = ii x ∧ m_ = [(away off (bl zs), none), ([.slice (some ⟨0, off, none⟩) n c, ii o2, wv h2], some t_spec_l01Source)]) := by
  refine callOK_ofF good fn_spec_l01Next ?_
  conv => whnf
  all_goals (repeat' first
    | (refine br_false (b := decide (m = 0)) (decide_eq_false ?_) ?_; (focus (have := of_decide_eq_false (show decide (m < 1) = false by assumption); omega)); conv => whnf)
    | (refine br_in ha.lo (of_decide_eq_true (show decide (o < (n : Int)) = true by assumption)) ?_; conv => whnf)
    | (refine force_eq (take_bl (xs := zs) (i := o.toNat) rfl ?_ ?_) ?_; (focus (simp only [Nat.mul_one]; done)); (focus (have := ha.lo; have := of_decide_eq_true (show decide (o < (n : Int)) = true by assumption); omega)); conv => whnf)
    | (show OutK _ _ _ _; rename decide (m < 1) = true => q0_; (exact out_forget [] ⟨_, _, _, below_zero (of_decide_eq_true q0_), ha, rfl, rfl⟩ rfl (okB2_spec rfl) ⟨⟨⟨_, rfl, .lit (away_conc (bl_plain _) _).symm rfl (away_ok (bl_plain _) _)⟩⟩, ⟨⟨_, rfl, .lit rfl rfl (fun v hv => okB0_spec (allL_spec rfl v hv))⟩⟩, trivial⟩ rfl rfl))
    | (show OutK _ _ _ _; rename decide (o < ((n : Nat) : Int)) = false => q0_; (exact out_forget [] ⟨_, _, _, below_mod (src_x _).1, ha, rfl, rfl⟩ rfl (okB2_spec rfl) ⟨⟨⟨_, rfl, .lit (away_conc (bl_plain _) _).symm rfl (away_ok (bl_plain _) _)⟩⟩, ⟨⟨_, rfl, .lit rfl rfl (fun v hv => okB0_spec (allL_spec rfl v hv))⟩⟩, trivial⟩ rfl rfl))
    | (show OutK _ _ _ _; rename decide (o < ((n : Nat) : Int)) = true => q0_; (exact out_forget [] ⟨_, _, _, below_mod (src_xb (byte_at hb (by have := ha.lo; have := of_decide_eq_true q0_; omega))), ha.next hn (of_decide_eq_true q0_), rfl, rfl⟩ rfl (okB2_spec rfl) ⟨⟨⟨_, rfl, .lit (away_conc (bl_plain _) _).symm rfl (away_ok (bl_plain _) _)⟩⟩, ⟨⟨_, rfl, .lit rfl rfl (fun v hv => okB0_spec (allL_spec rfl v hv))⟩⟩, trivial⟩ rfl rfl))
    | (refine StoreK.mk rfl ?_; conv => whnf)
    | exact join_same
    | exact (by assumption : (_ : Bool) = (_ : Bool))
    | (refine br_true (by assumption) ?_; conv => whnf)
    | (refine br_false (by assumption) ?_; conv => whnf)
    | (refine br_not ?_; conv => whnf)
    | (refine br_code ?_; conv => whnf)
    | (with_reducible refine br_and ?_; conv => whnf)
    | (with_reducible refine br_or ?_; conv => whnf)
    | (refine br_eq2 ?_; conv => whnf)
    | (refine draw_auto (by decide +kernel) ?_; conv => whnf)
    | (refine draw_asg (by decide +kernel) ?_; conv => whnf)
    | (refine draw_st (by decide +kernel) ?_; conv => whnf)
    | (refine draw_call (by decide +kernel) ?_; conv => whnf)
    | (refine enter_same (loop_n 12 ?_); conv => whnf)
    | (refine next_same ?_; conv => whnf)
    | (refine mapK_row (by assumption) ?_; conv => whnf)
    | (refine mapK_plain (Plain.of rfl) ?_; conv => whnf)
    | (refine mapK_lit ?_; conv => whnf)
    | (refine br_split (fun _ => ?_) (fun _ => ?_) <;> conv => whnf)
    | exact (rfl : (_ : Value) = _)
    | (simp only [*]; exact (rfl : (_ : Value) = _))
    | (simp [*]; done))

set_option maxHeartbeats 1000000 in
theorem c_From_N   : CallOK Try.prog n_spec_l01From [.slice none 0 0] [] (fun v m_ => ∃ h, v = .pointer (some ⟨0, 0, none⟩) ∧ m_ = [([.slice none 0 0, ii 0, wv h], some t_spec_l01Source)]) := by
  refine callOK_ofF good fn_spec_l01From ?_
  conv => whnf
  all_goals (repeat' first
    | (refine br_in hI.1 (of_decide_eq_true (show decide (i < (n : Int)) = true by assumption)) ?_; conv => whnf)
    | (refine force_eq (take_bl (xs := zs) (i := i.toNat) rfl ?_ ?_) ?_; (focus (simp only [Nat.mul_one]; done)); (focus (have := hI.1; have := of_decide_eq_true (show decide (i < (n : Int)) = true by assumption); omega)); conv => whnf)
    | (show OutK _ _ _ _; exact out_forget [_] ⟨_, rfl, rfl⟩ rfl (okB2_spec rfl) ⟨⟨⟨_, rfl, .lit rfl rfl (fun v hv => okB0_spec (allL_spec rfl v hv))⟩⟩, trivial⟩ rfl rfl)
    | (refine StoreK.mk rfl ?_; conv => whnf)
    | exact join_same
    | exact (by assumption : (_ : Bool) = (_ : Bool))
    | (refine br_true (by assumption) ?_; conv => whnf)
    | (refine br_false (by assumption) ?_; conv => whnf)
    | (refine br_not ?_; conv => whnf)
    | (refine br_code ?_; conv => whnf)
    | (with_reducible refine br_and ?_; conv => whnf)
    | (with_reducible refine br_or ?_; conv => whnf)
    | (refine br_eq2 ?_; conv => whnf)
    | (refine draw_auto (by decide +kernel) ?_; conv => whnf)
    | (refine draw_asg (by decide +kernel) ?_; conv => whnf)
    | (refine draw_st (by decide +kernel) ?_; conv => whnf)
    | (refine draw_call (by decide +kernel) ?_; conv => whnf)
    | (refine enter_same (loop_n 12 ?_); conv => whnf)
    | (refine next_same ?_; conv => whnf)
    | (refine mapK_row (by assumption) ?_; conv => whnf)
    | (refine mapK_plain (Plain.of rfl) ?_; conv => whnf)
    | (refine mapK_lit ?_; conv => whnf)
    | (refine br_split (fun _ => ?_) (fun _ => ?_) <;> conv => whnf)
    | exact (rfl : (_ : Value) = _)
    | (simp only [*]; exact (rfl : (_ : Value) = _))
    | (simp [*]; done))

set_option maxHeartbeats 1000000 in
theorem c_Next_N  {o h m : Int}  (ha : SrcAt 0 o) : CallOK Try.prog n_spec_l01Next [.pointer (some ⟨0, 0, none⟩), ii m] [([.slice none 0 0, ii o, wv h], some t_spec_l01Source)] (fun v m_ => ∃ x o2 h2, Below1 m x ∧ SrcAt 0 o2 ∧ v = ii x ∧ m_ = [([.slice none 0 0, ii o2, wv h2], some t_spec_l01Source)]) := by
  refine callOK_ofF good fn_spec_l01Next ?_
  conv => whnf
  all_goals (repeat' first
    | (refine br_false (b := decide (m = 0)) (decide_eq_false ?_) ?_; (focus (have := of_decide_eq_false (show decide (m < 1) = false by assumption); omega)); conv => whnf)
    | (refine br_in ha.lo (of_decide_eq_true (show decide (o < (n : Int)) = true by assumption)) ?_; conv => whnf)
    | (refine force_eq (take_bl (xs := zs) (i := o.toNat) rfl ?_ ?_) ?_; (focus (simp only [Nat.mul_one]; done)); (focus (have := ha.lo; have := of_decide_eq_true (show decide (o < (n : Int)) = true by assumption); omega)); conv => whnf)
    | (show OutK _ _ _ _; rename decide (m < 1) = true => q0_; (exact out_forget [] ⟨_, _, _, below_zero (of_decide_eq_true q0_), ha, rfl, rfl⟩ rfl (okB2_spec rfl) ⟨⟨⟨_, rfl, .lit rfl rfl (fun v hv => okB0_spec (allL_spec rfl v hv))⟩⟩, trivial⟩ rfl rfl))
    | (show OutK _ _ _ _; rename decide (o < ((0 : Nat) : Int)) = false => q0_; (exact out_forget [] ⟨_, _, _, below_mod (src_x _).1, ha, rfl, rfl⟩ rfl (okB2_spec rfl) ⟨⟨⟨_, rfl, .lit rfl rfl (fun v hv => okB0_spec (allL_spec rfl v hv))⟩⟩, trivial⟩ rfl rfl))
    | exact absurd (of_decide_eq_true (show decide (o < ((0 : Nat) : Int)) = true by assumption)) (by have := ha.lo; omega)
    | (refine StoreK.mk rfl ?_; conv => whnf)
    | exact join_same
    | exact (by assumption : (_ : Bool) = (_ : Bool))
    | (refine br_true (by assumption) ?_; conv => whnf)
    | (refine br_false (by assumption) ?_; conv => whnf)
    | (refine br_not ?_; conv => whnf)
    | (refine br_code ?_; conv => whnf)
    | (with_reducible refine br_and ?_; conv => whnf)
    | (with_reducible refine br_or ?_; conv => whnf)
    | (refine br_eq2 ?_; conv => whnf)
    | (refine draw_auto (by decide +kernel) ?_; conv => whnf)
    | (refine draw_asg (by decide +kernel) ?_; conv => whnf)
    | (refine draw_st (by decide +kernel) ?_; conv => whnf)
    | (refine draw_call (by decide +kernel) ?_; conv => whnf)
    | (refine enter_same (loop_n 12 ?_); conv => whnf)
    | (refine next_same ?_; conv => whnf)
    | (refine mapK_row (by assumption) ?_; conv => whnf)
    | (refine mapK_plain (Plain.of rfl) ?_; conv => whnf)
    | (refine mapK_lit ?_; conv => whnf)
    | (refine br_split (fun _ => ?_) (fun _ => ?_) <;> conv => whnf)
    | exact (rfl : (_ : Value) = _)
    | (simp only [*]; exact (rfl : (_ : Value) = _))
    | (simp [*]; done))

end Go.Proofs.Ytgbnoaggnfjjgaa
