/-
  Contracts of functions of the program (printed by a program of this work; Lean checks each).
  Conditions: as each contract states.
-/
import Derived.Test.YtlkbfpklhncfbaaK29
import Derived.Test.YtlkbfpklhncfbaaSum
import Derived.Test.YtlkbfpklhncfbaaUseD
namespace Go.Proofs.Ytlkbfpklhncfbaa
open Go.Ev Go.RowKit
set_option maxRecDepth 100000
set_option linter.unusedVariables false
set_option linter.unusedSimpArgs false

theorem c_Grow {n : Int} (h0 : 0 < n) (hn : n ≤ 4000000) : CallOK Try.prog n_slices_Grow_int64 [.slice none 0 0, ii n] [] (fun v m_ => ∃ c sp, v = .slice (some ⟨0, 0, none⟩) 0 c ∧ Row [] sp 0 c 1 ∧ n ≤ (c : Int) ∧ m_ = [(sp, some 2)]) := by
  have e1_ : w64 (n - w64 (((0 : Nat) : Int) - ((0 : Nat) : Int))) = n := (by rw [w64_in (n := ((0 : Nat) : Int) - ((0 : Nat) : Int)) (by omega) (by omega), w64_in (by omega) (by omega)]; omega); refine callOK_ofF good fn_slices_Grow_int64 ?_
  conv => whnf
  all_goals (repeat' first
    | (refine br_false (b := decide (n < 0)) (decide_eq_false (by omega)) ?_; conv => whnf)
    | (refine br_true (b := decide (w64 (n - w64 (((0 : Nat) : Int) - ((0 : Nat) : Int))) > 0)) (decide_eq_true (by omega)) ?_; conv => whnf)
    | (show AppZ _ _ _ _ _ _ _ _ _ _; refine app_zeros0 (m := n.toNat) (by omega) rfl rfl (by decide) (by omega) (by omega) (by show _ * 8 ≤ _; omega) (fun c_ sp_ hl_ hp_ hge_ => ?_); conv => whnf)
    | (exact out_forget (m0 := 0) (v' := .slice (some ⟨0, 0, none⟩) 0 c_) (mem' := [(sp_, some 2)]) [0] ⟨c_, sp_, rfl, ⟨rfl, by simpa using hl_, Plain.nil, hp_⟩, by omega, rfl⟩ rfl (okB2_spec rfl) ⟨⟨⟨_, rfl, .plain rfl rfl hp_⟩⟩, trivial⟩ rfl rfl)
    | (refine StoreK.mk rfl ?_; conv => whnf)
    | exact join_same
    | exact (by assumption : (_ : Bool) = (_ : Bool))
    | (refine br_true (by assumption) ?_; conv => whnf)
    | (refine br_false (by assumption) ?_; conv => whnf)
    | (refine br_not ?_; conv => whnf)
    | (refine br_code ?_; conv => whnf)
    | (with_reducible refine br_and ?_; conv => whnf)
    | (with_reducible refine br_or ?_; conv => whnf)
    | (refine br_eq2 ?_; conv => whnf)
    | (refine draw_auto (by decide +kernel) ?_; conv => whnf)
    | (refine draw_asg (by decide +kernel) ?_; conv => whnf)
    | (refine draw_st (by decide +kernel) ?_; conv => whnf)
    | (refine draw_call (by decide +kernel) ?_; conv => whnf)
    | (refine enter_same (loop_n 12 ?_); conv => whnf)
    | (refine next_same ?_; conv => whnf)
    | (refine mapK_row (by assumption) ?_; conv => whnf)
    | (refine mapK_plain (Plain.of rfl) ?_; conv => whnf)
    | (refine mapK_lit ?_; conv => whnf)
    | (refine br_split (fun _ => ?_) (fun _ => ?_) <;> conv => whnf)
    | exact (rfl : (_ : Value) = _)
    | (simp only [*]; exact (rfl : (_ : Value) = _))
    | (simp [*]; done))

theorem row_take {L sp : List Value} {n c : Nat} (h : Row L sp n c 1) : List.take (n * 1) (List.drop 0 (L ++ sp)) = L := by
  have := h.len
  rw [List.drop_zero, ← this, List.take_left]

theorem c_Concat {xs ys zs : List Int} {sx sy sz : List Value} {n1 c1 n2 c2 n3 c3 : Nat} (h1 : Row (il xs) sx n1 c1 1) (h2 : Row (il ys) sy n2 c2 1) (h3 : Row (il zs) sz n3 c3 1) (hn1 : n1 ≤ 1000003) (hn2 : 1 ≤ n2 ∧ n2 ≤ 1000003) (hn3 : n3 ≤ 1000003) : CallOK Try.prog n_slices_Concat_int64 [.slice (some ⟨0, 0, none⟩) 3 3] [([.slice (some ⟨1, 0, none⟩) n1 c1, .slice (some ⟨2, 0, none⟩) n2 c2, .slice (some ⟨3, 0, none⟩) n3 c3], none), (il xs ++ sx, none), (il ys ++ sy, none), (il zs ++ sz, none)] (fun v m_ => ∃ n c sp, Row (il (xs ++ ys ++ zs)) sp n c 1 ∧ v = .slice (some ⟨4, 0, none⟩) n c ∧ m_ = [([.slice (some ⟨1, 0, none⟩) n1 c1, .slice (some ⟨2, 0, none⟩) n2 c2, .slice (some ⟨3, 0, none⟩) n3 c3], none), (il xs ++ sx, none), (il ys ++ sy, none), (il zs ++ sz, none)] ++ [(il (xs ++ ys ++ zs) ++ sp, some 2)]) := by
  have e1_ : w64 (0 + (n1 : Int)) = (n1 : Int) := w64_in (by omega) (by omega) |>.trans (by omega); have e2_ : w64 ((n1 : Int) + (n2 : Int)) = (n1 : Int) + (n2 : Int) := w64_in (by omega) (by omega); have e3_ : w64 ((n1 : Int) + (n2 : Int) + (n3 : Int)) = (n1 : Int) + (n2 : Int) + (n3 : Int) := w64_in (by omega) (by omega); refine callOK_ofF good fn_slices_Concat_int64 ?_
  conv => whnf
  all_goals (repeat' first
    | (refine br_false (decide_eq_false (by simp only [e1_, e2_, e3_]; omega)) ?_; conv => whnf)
    | (refine CallOK.useR (c_Grow (by simp only [e1_, e2_, e3_]; omega) (by simp only [e1_, e2_, e3_]; omega)) [] rfl rfl rfl trivial (fun v_ mem_ hR => ?_); obtain ⟨c_, sp_, rfl, hrow_, hnc_, rfl⟩ := hR; simp only [e1_, e2_, e3_] at hnc_; refine ⟨rfl, ?_⟩; conv => whnf)
    | (show AppK _ _ _ 1 _ _ _ _ _; refine app_row (off := 0) (news := il xs) hrow_ rfl rfl (row_take h1) (h1.len) (h1.pl) rfl rfl (by decide) (by show (_ + _) * 8 ≤ _; omega) (by omega) (fun hle_ spa_ ra_ => ?_) (fun hle_ ca_ spa_ ra_ => (by omega)) <;> conv => whnf)
    | (show AppK _ _ _ 1 _ _ _ _ _; refine app_row (off := 0) (news := il ys) ra_ rfl rfl (row_take h2) (h2.len) (h2.pl) rfl rfl (by decide) (by show (_ + _) * 8 ≤ _; omega) (by omega) (fun hle_ spb_ rb_ => ?_) (fun hle_ cb_ spb_ rb_ => (by omega)) <;> conv => whnf)
    | (show AppK _ _ _ 1 _ _ _ _ _; refine app_row (off := 0) (news := il zs) rb_ rfl rfl (row_take h3) (h3.len) (h3.pl) rfl rfl (by decide) (by show (_ + _) * 8 ≤ _; omega) (by omega) (fun hle_ spc_ rc_ => ?_) (fun hle_ cc_ spc_ rc_ => (by omega)) <;> conv => whnf)
    | (rw [show il (xs ++ ys ++ zs) = [] ++ il xs ++ il ys ++ il zs by simp [il]]; exact out_forget [4] ⟨_, _, spc_, rc_, rfl, rfl⟩ rfl (okB2_spec rfl) ⟨⟨⟨_, rfl, .lit rfl rfl (fun v hv => okB0_spec (allL_spec rfl v hv))⟩⟩, ⟨⟨_, rfl, .plain rfl rfl (Row.all h1)⟩⟩, ⟨⟨_, rfl, .plain rfl rfl (Row.all h2)⟩⟩, ⟨⟨_, rfl, .plain rfl rfl (Row.all h3)⟩⟩, ⟨⟨_, rfl, .plain rfl rfl (Row.all rc_)⟩⟩, trivial⟩ rfl rfl)
    | (refine StoreK.mk rfl ?_; conv => whnf)
    | exact join_same
    | exact (by assumption : (_ : Bool) = (_ : Bool))
    | (refine br_true (by assumption) ?_; conv => whnf)
    | (refine br_false (by assumption) ?_; conv => whnf)
    | (refine br_not ?_; conv => whnf)
    | (refine br_code ?_; conv => whnf)
    | (with_reducible refine br_and ?_; conv => whnf)
    | (with_reducible refine br_or ?_; conv => whnf)
    | (refine br_eq2 ?_; conv => whnf)
    | (refine draw_auto (by decide +kernel) ?_; conv => whnf)
    | (refine draw_asg (by decide +kernel) ?_; conv => whnf)
    | (refine draw_st (by decide +kernel) ?_; conv => whnf)
    | (refine draw_call (by decide +kernel) ?_; conv => whnf)
    | (refine enter_same (loop_n 12 ?_); conv => whnf)
    | (refine next_same ?_; conv => whnf)
    | (refine mapK_row (by assumption) ?_; conv => whnf)
    | (refine mapK_plain (Plain.of rfl) ?_; conv => whnf)
    | (refine mapK_lit ?_; conv => whnf)
    | (refine br_split (fun _ => ?_) (fun _ => ?_) <;> conv => whnf)
    | exact (rfl : (_ : Value) = _)
    | (simp only [*]; exact (rfl : (_ : Value) = _))
    | (simp [*]; done))

end Go.Proofs.Ytlkbfpklhncfbaa
