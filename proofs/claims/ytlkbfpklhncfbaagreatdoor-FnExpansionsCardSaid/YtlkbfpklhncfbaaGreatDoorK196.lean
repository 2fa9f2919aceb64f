/-
  Contracts of functions of the program (printed by a program of this work; Lean checks each).
  Conditions: as each contract states.
-/
import Derived.Test.YtlkbfpklhncfbaaGreatDoorK195L
import Derived.Test.YtlkbfpklhncfbaaGreatDoorK195N
import Derived.Test.YtlkbfpklhncfbaaGreatDoorKP1
import Derived.Test.YtlkbfpklhncfbaaGreatDoorKP2
namespace Go.Proofs.YtlkbfpklhncfbaaGreatDoor
open Go.Ev Go.RowKit
set_option maxRecDepth 100000
set_option linter.unusedVariables false
set_option linter.unusedSimpArgs false

theorem c_fn_FnExpansions_L {zs : List Int} {off n c : Nat} (hz : n ≤ zs.length) (hb : ∀ z ∈ zs, IsByte z) (hn : n ≤ 4096) : CallOK Tryz.prog n_laws_FnExpansions [.slice (some ⟨0, off, none⟩) n c] [(away off (bl zs), none)] (fun v m_ => v = bb true ∧ m_ = [(away off (bl zs), none)]) := by
  refine runs_fn good fn_laws_FnExpansions ?_
  exact runs_cut good 7 (c_cut_FnExpansions_L0 hz hb hn) (fun tm mem h => by obtain ⟨rfl, rfl⟩ := h; exact runs_cut good 5 (c_cut_FnExpansions_L1 hz hb hn) (fun tm mem h => by obtain ⟨rfl, rfl⟩ := h; exact runs_cut good 4 (c_cut_FnExpansions_L2 hz hb hn) (fun tm mem h => by obtain ⟨rfl, rfl⟩ := h; exact runs_cut good 5 (c_cut_FnExpansions_L3 hz hb hn) (fun tm mem h => by obtain ⟨rfl, rfl⟩ := h; exact runs_cut good 5 (c_cut_FnExpansions_L4 hz hb hn) (fun tm mem h => by obtain ⟨rfl, rfl⟩ := h; exact runs_ev good (c_cut_FnExpansions_L5 hz hb hn))))))

theorem c_fn_FnExpansions_N   : CallOK Tryz.prog n_laws_FnExpansions [.slice none 0 0] [] (fun v m_ => v = bb true ∧ m_ = []) := by
  refine runs_fn good fn_laws_FnExpansions ?_
  exact runs_cut good 7 (c_cut_FnExpansions_N0) (fun tm mem h => by obtain ⟨rfl, rfl⟩ := h; exact runs_cut good 5 (c_cut_FnExpansions_N1) (fun tm mem h => by obtain ⟨rfl, rfl⟩ := h; exact runs_cut good 4 (c_cut_FnExpansions_N2) (fun tm mem h => by obtain ⟨rfl, rfl⟩ := h; exact runs_cut good 5 (c_cut_FnExpansions_N3) (fun tm mem h => by obtain ⟨rfl, rfl⟩ := h; exact runs_cut good 5 (c_cut_FnExpansions_N4) (fun tm mem h => by obtain ⟨rfl, rfl⟩ := h; exact runs_ev good (c_cut_FnExpansions_N5))))))

theorem c_fn_FnExpansions_B {zs : List Int} {off n c : Nat} (hn : ¬ n ≤ 4096) : CallOK Tryz.prog n_laws_FnExpansions [.slice (some ⟨0, off, none⟩) n c] [(away off (bl zs), none)] (fun v m_ => v = bb true ∧ m_ = [(away off (bl zs), none)]) := by
  refine callOK_ofF good fn_laws_FnExpansions ?_
  conv => whnf
  all_goals (repeat' first
    | (refine CallOK.useR c_big_L [0] rfl rfl rfl ⟨⟨⟨_, rfl, .lit (away_conc (bl_plain _) _).symm (fun _ h_ => by cases h_) (away_ok (bl_plain _) _)⟩⟩, trivial⟩ (fun v_ mem_ hR => ?_); obtain ⟨rfl, rfl⟩ := hR; refine ⟨rfl, ?_⟩; conv => whnf)
    | (refine br_true (b := decide (((n : Nat) : Int) > 4096)) (decide_eq_true ?_) ?_; (focus omega); conv => whnf)
    | (show OutK _ _ _ _; exact out_forget [] ⟨rfl, rfl⟩ rfl (okB2_spec rfl) ⟨⟨⟨_, rfl, .lit (away_conc (bl_plain _) _).symm rfl (away_ok (bl_plain _) _)⟩⟩, trivial⟩ rfl rfl)
    | (refine StoreK.mk rfl ?_; conv => whnf)
    | exact join_same
    | exact (by assumption : (_ : Bool) = (_ : Bool))
    | (refine br_true (by assumption) ?_; conv => whnf)
    | (refine br_false (by assumption) ?_; conv => whnf)
    | (refine br_not ?_; conv => whnf)
    | (refine br_code ?_; conv => whnf)
    | (with_reducible refine br_and ?_; conv => whnf)
    | (with_reducible refine br_or ?_; conv => whnf)
    | (refine br_eq2 ?_; conv => whnf)
    | (refine draw_auto (by decide +kernel) ?_; conv => whnf)
    | (refine draw_asg (by decide +kernel) ?_; conv => whnf)
    | (refine draw_st (by decide +kernel) ?_; conv => whnf)
    | (refine draw_call (by decide +kernel) ?_; conv => whnf)
    | (refine enter_same (loop_n 12 ?_); conv => whnf)
    | (refine next_same ?_; conv => whnf)
    | (refine mapK_row (by assumption) ?_; conv => whnf)
    | (refine mapK_plain (Plain.of rfl) ?_; conv => whnf)
    | (refine mapK_lit ?_; conv => whnf)
    | (refine br_split (fun _ => ?_) (fun _ => ?_) <;> conv => whnf)
    | exact (rfl : (_ : Value) = _)
    | (simp only [*]; exact (rfl : (_ : Value) = _))
    | (simp [*]; done))

theorem c_laws_FnExpansions_list {zs : List Int} {off n c : Nat} (hz : n ≤ zs.length) (hb : ∀ z ∈ zs, IsByte z) : CallOK Tryz.prog n_laws_FnExpansions [.slice (some ⟨0, off, none⟩) n c] [(away off (bl zs), none)] (fun v m_ => v = bb true ∧ m_ = [(away off (bl zs), none)]) := by
  by_cases hn : n ≤ 4096
  · exact c_fn_FnExpansions_L hz hb hn
  · exact c_fn_FnExpansions_B hn
theorem c_laws_FnExpansions_nil : CallOK Tryz.prog n_laws_FnExpansions [.slice none 0 0] [] (fun v m_ => v = bb true ∧ m_ = []) := c_fn_FnExpansions_N

end Go.Proofs.YtlkbfpklhncfbaaGreatDoor
