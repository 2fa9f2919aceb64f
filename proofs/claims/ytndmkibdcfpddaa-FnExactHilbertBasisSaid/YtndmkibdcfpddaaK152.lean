/-
  Contracts of functions of the program (printed by a program of this work; Lean checks each).
  Conditions: as each contract states.
-/
import Derived.Test.YtndmkibdcfpddaaK145
import Derived.Test.YtndmkibdcfpddaaDel
import Derived.Test.YtndmkibdcfpddaaKM1
namespace Go.Proofs.Ytndmkibdcfpddaa
open Go.Ev Go.RowKit
set_option maxRecDepth 100000
set_option linter.unusedVariables false
set_option linter.unusedSimpArgs false

theorem c_hb2 {x y : S3}  : CallOK Try.prog n_impl_HilbertBasis_1_1 [v3 y.1 y.2.1 y.2.2, .pointer (some ⟨0, 0, none⟩)] [([ii x.1, ii x.2.1, ii x.2.2], none)] (fun v m_ => v = bb (hbF x y) ∧ m_ = [([ii x.1, ii x.2.1, ii x.2.2], none)]) := by
  refine callOK_ofF good fn_impl_HilbertBasis_1_1 ?_
  conv => whnf
  all_goals (repeat' first
    | (exact out_forget [] ⟨congrArg Value.bool (hbF_t (by assumption)), rfl⟩ rfl (okB2_spec rfl) ⟨⟨⟨_, rfl, .plain rfl rfl (by first | exact Plain.of rfl | exact Row.all (by assumption))⟩⟩, trivial⟩ rfl rfl)
    | (exact out_forget [] ⟨congrArg Value.bool (hbF_f (by assumption)), rfl⟩ rfl (okB2_spec rfl) ⟨⟨⟨_, rfl, .plain rfl rfl (by first | exact Plain.of rfl | exact Row.all (by assumption))⟩⟩, trivial⟩ rfl rfl)
    | (refine StoreK.mk rfl ?_; conv => whnf)
    | exact join_same
    | exact (by assumption : (_ : Bool) = (_ : Bool))
    | (refine br_true (by assumption) ?_; conv => whnf)
    | (refine br_false (by assumption) ?_; conv => whnf)
    | (refine br_not ?_; conv => whnf)
    | (refine br_code ?_; conv => whnf)
    | (with_reducible refine br_and ?_; conv => whnf)
    | (with_reducible refine br_or ?_; conv => whnf)
    | (refine br_eq2 ?_; conv => whnf)
    | (refine c_impl_Spot_less.call ?_; conv => whnf)
    | (refine c_impl_Spot_less.quiet ?_; conv => whnf)
    | (refine c_impl_Spot_notNegative.call ?_; conv => whnf)
    | (refine c_impl_Spot_notNegative.quiet ?_; conv => whnf)
    | (refine draw_auto (by decide +kernel) ?_; conv => whnf)
    | (refine draw_asg (by decide +kernel) ?_; conv => whnf)
    | (refine draw_st (by decide +kernel) ?_; conv => whnf)
    | (refine draw_call (by decide +kernel) ?_; conv => whnf)
    | (refine enter_same (loop_n 12 ?_); conv => whnf)
    | (refine next_same ?_; conv => whnf)
    | (refine mapK_row (by assumption) ?_; conv => whnf)
    | (refine mapK_plain (Plain.of rfl) ?_; conv => whnf)
    | (refine mapK_lit ?_; conv => whnf)
    | (refine br_split (fun _ => ?_) (fun _ => ?_) <;> conv => whnf)
    | exact (rfl : (_ : Value) = _)
    | (simp only [*]; exact (rfl : (_ : Value) = _))
    | (simp [*]; done))

set_option maxHeartbeats 1000000 in
theorem c_index_hb2 {C : List Value} {o n c : Nat} {L : List S3} {x : S3} (h1 : RowO C o (sl L) n c 3) (hn : n ≤ 100000000) : CallOK Try.prog n_slices_IndexFunc_Spot [.slice (some ⟨0, o, none⟩) n c, .func (.func n_impl_HilbertBasis_1_1) #[] #[.pointer (some ⟨1, 0, none⟩)]] [(C, none), ([ii x.1, ii x.2.1, ii x.2.2], none)] (fun v m_ => ∃ r, IdxR (hbF x) L r ∧ v = ii r ∧ m_ = [(C, none), ([ii x.1, ii x.2.1, ii x.2.2], none)]) := by
  obtain rfl : L.length = n := (by have h_ := h1.len; rw [sl_len] at h_; omega); refine callOK_ofF good fn_slices_IndexFunc_Spot ?_
  conv => whnf
  all_goals (repeat' first
    | (refine enter_forget [] (loop_rec (fun (s : Int) => match s with | i => [.slice (some ⟨0, o, none⟩) L.length c, .func (.func n_impl_HilbertBasis_1_1) #[] #[.pointer (some ⟨1, 0, none⟩)], wild, wild, wild, wild, .slice (some ⟨0, o, none⟩) L.length c, ii (L.length : Int), ii i, wild, wild, wild, wild, wild, wild, wild, wild, wild, wild]) (fun (s : Int) => match s with | i => [(C, none), ([ii x.1, ii x.2.1, ii x.2.2], none)]) (fun (s : Int) => match s with | i => ((L.length : Int) - i).toNat) (fun (s : Int) => match s with | i => FirS (hbF x) L i) (0) FirS.start ?_) (tmR_rfl rfl rfl) ⟨⟨⟨_, rfl, .plain rfl rfl (RowO.all h1)⟩⟩, ⟨⟨_, rfl, .plain rfl rfl (by first | exact Plain.of rfl | exact Row.all (by assumption))⟩⟩, trivial⟩ rfl rfl; rintro fuel_ i hI IH; replace hI : FirS (hbF x) L i := hI; conv => whnf)
    | exact next_forget [] (IH (w64 (i + 1)) (by exact hI.next (of_decide_eq_true (show decide (i < (L.length : Int)) = true by assumption)) hn (by assumption)) (by exact hI.mu (of_decide_eq_true (show decide (i < (L.length : Int)) = true by assumption)) hn)) (tmR_rfl rfl rfl) ⟨⟨⟨_, rfl, .plain rfl rfl (RowO.all h1)⟩⟩, ⟨⟨_, rfl, .plain rfl rfl (by first | exact Plain.of rfl | exact Row.all (by assumption))⟩⟩, trivial⟩ rfl rfl
    | (refine br_in hI.lo (of_decide_eq_true (show decide (i < (L.length : Int)) = true by assumption)) ?_; conv => whnf)
    | (refine force_eq (h1.at3 (i := i.toNat) (by omega) (by have := hI.lo; have := (of_decide_eq_true (show decide (i < (L.length : Int)) = true by assumption)); omega)) ?_; conv => whnf)
    | (refine CallOK.useR (c_hb2 (x := x) (y := (L.getD i.toNat (0, 0, 0)))) [1] rfl rfl rfl ⟨⟨⟨_, rfl, .plain rfl (fun _ h_ => by first | exact h_ | cases h_) (Plain.of rfl)⟩⟩, trivial⟩ (fun v_ mem_ hR => ?_); obtain ⟨rfl, rfl⟩ := hR; refine ⟨rfl, ?_⟩; conv => whnf)
    | (exact out_forget [] ⟨_, hI.hit (of_decide_eq_true (show decide (i < (L.length : Int)) = true by assumption)) (by assumption), rfl, rfl⟩ rfl (okB2_spec rfl) ⟨⟨⟨_, rfl, .plain rfl rfl (RowO.all h1)⟩⟩, ⟨⟨_, rfl, .plain rfl rfl (by first | exact Plain.of rfl | exact Row.all (by assumption))⟩⟩, trivial⟩ rfl rfl)
    | (exact out_forget [] ⟨_, hI.fin (of_decide_eq_false (show decide (i < (L.length : Int)) = false by assumption)), rfl, rfl⟩ rfl (okB2_spec rfl) ⟨⟨⟨_, rfl, .plain rfl rfl (RowO.all h1)⟩⟩, ⟨⟨_, rfl, .plain rfl rfl (by first | exact Plain.of rfl | exact Row.all (by assumption))⟩⟩, trivial⟩ rfl rfl)
    | (refine StoreK.mk rfl ?_; conv => whnf)
    | exact join_same
    | exact (by assumption : (_ : Bool) = (_ : Bool))
    | (refine br_true (by assumption) ?_; conv => whnf)
    | (refine br_false (by assumption) ?_; conv => whnf)
    | (refine br_not ?_; conv => whnf)
    | (refine br_code ?_; conv => whnf)
    | (with_reducible refine br_and ?_; conv => whnf)
    | (with_reducible refine br_or ?_; conv => whnf)
    | (refine br_eq2 ?_; conv => whnf)
    | (refine draw_auto (by decide +kernel) ?_; conv => whnf)
    | (refine draw_asg (by decide +kernel) ?_; conv => whnf)
    | (refine draw_st (by decide +kernel) ?_; conv => whnf)
    | (refine draw_call (by decide +kernel) ?_; conv => whnf)
    | (refine enter_same (loop_n 12 ?_); conv => whnf)
    | (refine next_same ?_; conv => whnf)
    | (refine mapK_row (by assumption) ?_; conv => whnf)
    | (refine mapK_plain (Plain.of rfl) ?_; conv => whnf)
    | (refine mapK_lit ?_; conv => whnf)
    | (refine br_split (fun _ => ?_) (fun _ => ?_) <;> conv => whnf)
    | exact (rfl : (_ : Value) = _)
    | (simp only [*]; exact (rfl : (_ : Value) = _))
    | (simp [*]; done))

theorem c_contains_hb2 {C : List Value} {o n c : Nat} {L : List S3} {x : S3} (h1 : RowO C o (sl L) n c 3) (hn : n ≤ 100000000) : CallOK Try.prog n_slices_ContainsFunc_Spot [.slice (some ⟨0, o, none⟩) n c, .func (.func n_impl_HilbertBasis_1_1) #[] #[.pointer (some ⟨1, 0, none⟩)]] [(C, none), ([ii x.1, ii x.2.1, ii x.2.2], none)] (fun v m_ => v = bb (L.any (hbF x)) ∧ m_ = [(C, none), ([ii x.1, ii x.2.1, ii x.2.2], none)]) := by
  refine callOK_ofF good fn_slices_ContainsFunc_Spot ?_
  conv => whnf
  all_goals (repeat' first
    | (refine CallOK.useR (c_index_hb2 h1 hn) [_, _] rfl rfl rfl ⟨⟨⟨_, rfl, .plain rfl (fun _ h_ => by first | exact h_ | cases h_) (RowO.all h1)⟩⟩, ⟨⟨_, rfl, .plain rfl (fun _ h_ => by first | exact h_ | cases h_) (Plain.of rfl)⟩⟩, trivial⟩ (fun v_ mem_ hR => ?_); obtain ⟨r_, hr_, rfl, rfl⟩ := hR; refine ⟨rfl, ?_⟩; conv => whnf)
    | (exact out_forget [] ⟨congrArg Value.bool hr_.any, rfl⟩ rfl (okB2_spec rfl) ⟨⟨⟨_, rfl, .plain rfl rfl (RowO.all h1)⟩⟩, ⟨⟨_, rfl, .plain rfl rfl (by first | exact Plain.of rfl | exact Row.all (by assumption))⟩⟩, trivial⟩ rfl rfl)
    | (refine StoreK.mk rfl ?_; conv => whnf)
    | exact join_same
    | exact (by assumption : (_ : Bool) = (_ : Bool))
    | (refine br_true (by assumption) ?_; conv => whnf)
    | (refine br_false (by assumption) ?_; conv => whnf)
    | (refine br_not ?_; conv => whnf)
    | (refine br_code ?_; conv => whnf)
    | (with_reducible refine br_and ?_; conv => whnf)
    | (with_reducible refine br_or ?_; conv => whnf)
    | (refine br_eq2 ?_; conv => whnf)
    | (refine draw_auto (by decide +kernel) ?_; conv => whnf)
    | (refine draw_asg (by decide +kernel) ?_; conv => whnf)
    | (refine draw_st (by decide +kernel) ?_; conv => whnf)
    | (refine draw_call (by decide +kernel) ?_; conv => whnf)
    | (refine enter_same (loop_n 12 ?_); conv => whnf)
    | (refine next_same ?_; conv => whnf)
    | (refine mapK_row (by assumption) ?_; conv => whnf)
    | (refine mapK_plain (Plain.of rfl) ?_; conv => whnf)
    | (refine mapK_lit ?_; conv => whnf)
    | (refine br_split (fun _ => ?_) (fun _ => ?_) <;> conv => whnf)
    | exact (rfl : (_ : Value) = _)
    | (simp only [*]; exact (rfl : (_ : Value) = _))
    | (simp [*]; done))

theorem c_hb1 {C : List Value} {o n c : Nat} {L : List S3} {x : S3} (h1 : RowO C o (sl L) n c 3) (hn : n ≤ 100000000) : CallOK Try.prog n_impl_HilbertBasis_1 [v3 x.1 x.2.1 x.2.2, .pointer (some ⟨1, 0, none⟩)] [(C, none), ([.slice (some ⟨0, o, none⟩) n c], none)] (fun v m_ => v = bb (L.any (hbF x)) ∧ m_ = [(C, none), ([.slice (some ⟨0, o, none⟩) n c], none)]) := by
  refine callOK_ofF good fn_impl_HilbertBasis_1 ?_
  conv => whnf
  all_goals (repeat' first
    | (refine CallOK.useR (c_contains_hb2 (x := x) h1 hn) [0, 2] rfl rfl rfl ⟨⟨⟨_, rfl, .plain rfl (fun _ h_ => by first | exact h_ | cases h_) (RowO.all h1)⟩⟩, ⟨⟨_, rfl, .plain rfl (fun _ h_ => by first | exact h_ | cases h_) (Plain.of rfl)⟩⟩, trivial⟩ (fun v_ mem_ hR => ?_); obtain ⟨rfl, rfl⟩ := hR; refine ⟨rfl, ?_⟩; conv => whnf)
    | (exact out_forget [] ⟨rfl, rfl⟩ rfl (okB2_spec rfl) ⟨⟨⟨_, rfl, .plain rfl rfl (RowO.all h1)⟩⟩, ⟨⟨_, rfl, .lit rfl rfl (fun v hv => okB0_spec (allL_spec rfl v hv))⟩⟩, trivial⟩ rfl rfl)
    | (refine StoreK.mk rfl ?_; conv => whnf)
    | exact join_same
    | exact (by assumption : (_ : Bool) = (_ : Bool))
    | (refine br_true (by assumption) ?_; conv => whnf)
    | (refine br_false (by assumption) ?_; conv => whnf)
    | (refine br_not ?_; conv => whnf)
    | (refine br_code ?_; conv => whnf)
    | (with_reducible refine br_and ?_; conv => whnf)
    | (with_reducible refine br_or ?_; conv => whnf)
    | (refine br_eq2 ?_; conv => whnf)
    | (refine draw_auto (by decide +kernel) ?_; conv => whnf)
    | (refine draw_asg (by decide +kernel) ?_; conv => whnf)
    | (refine draw_st (by decide +kernel) ?_; conv => whnf)
    | (refine draw_call (by decide +kernel) ?_; conv => whnf)
    | (refine enter_same (loop_n 12 ?_); conv => whnf)
    | (refine next_same ?_; conv => whnf)
    | (refine mapK_row (by assumption) ?_; conv => whnf)
    | (refine mapK_plain (Plain.of rfl) ?_; conv => whnf)
    | (refine mapK_lit ?_; conv => whnf)
    | (refine br_split (fun _ => ?_) (fun _ => ?_) <;> conv => whnf)
    | exact (rfl : (_ : Value) = _)
    | (simp only [*]; exact (rfl : (_ : Value) = _))
    | (simp [*]; done))

set_option maxHeartbeats 1000000 in
theorem c_index_hb1 {C B : List Value} {o n c q m d : Nat} {L LL : List S3} (h1 : RowO C o (sl L) n c 3) (hn : n ≤ 100000000) (h2 : RowO B q (sl LL) m d 3) (hm : m ≤ 100000000) : CallOK Try.prog n_slices_IndexFunc_Spot [.slice (some ⟨0, o, none⟩) n c, .func (.func n_impl_HilbertBasis_1) #[] #[.pointer (some ⟨2, 0, none⟩)]] [(C, none), (B, none), ([.slice (some ⟨1, q, none⟩) m d], none)] (fun v m_ => ∃ r, IdxR (fun x => LL.any (hbF x)) L r ∧ v = ii r ∧ m_ = [(C, none), (B, none), ([.slice (some ⟨1, q, none⟩) m d], none)]) := by
  obtain rfl : L.length = n := (by have h_ := h1.len; rw [sl_len] at h_; omega); refine callOK_ofF good fn_slices_IndexFunc_Spot ?_
  conv => whnf
  all_goals (repeat' first
    | (refine enter_forget [] (loop_rec (fun (s : Int) => match s with | i => [.slice (some ⟨0, o, none⟩) L.length c, .func (.func n_impl_HilbertBasis_1) #[] #[.pointer (some ⟨2, 0, none⟩)], wild, wild, wild, wild, .slice (some ⟨0, o, none⟩) L.length c, ii (L.length : Int), ii i, wild, wild, wild, wild, wild, wild, wild, wild, wild, wild]) (fun (s : Int) => match s with | i => [(C, none), (B, none), ([.slice (some ⟨1, q, none⟩) m d], none)]) (fun (s : Int) => match s with | i => ((L.length : Int) - i).toNat) (fun (s : Int) => match s with | i => FirS (fun x => LL.any (hbF x)) L i) (0) FirS.start ?_) (tmR_rfl rfl rfl) ⟨⟨⟨_, rfl, .plain rfl rfl (RowO.all h1)⟩⟩, ⟨⟨_, rfl, .plain rfl rfl (RowO.all h2)⟩⟩, ⟨⟨_, rfl, .lit rfl rfl (fun v hv => okB0_spec (allL_spec rfl v hv))⟩⟩, trivial⟩ rfl rfl; rintro fuel_ i hI IH; replace hI : FirS (fun x => LL.any (hbF x)) L i := hI; conv => whnf)
    | exact next_forget [] (IH (w64 (i + 1)) (by exact hI.next (of_decide_eq_true (show decide (i < (L.length : Int)) = true by assumption)) hn (by assumption)) (by exact hI.mu (of_decide_eq_true (show decide (i < (L.length : Int)) = true by assumption)) hn)) (tmR_rfl rfl rfl) ⟨⟨⟨_, rfl, .plain rfl rfl (RowO.all h1)⟩⟩, ⟨⟨_, rfl, .plain rfl rfl (RowO.all h2)⟩⟩, ⟨⟨_, rfl, .lit rfl rfl (fun v hv => okB0_spec (allL_spec rfl v hv))⟩⟩, trivial⟩ rfl rfl
    | (refine br_in hI.lo (of_decide_eq_true (show decide (i < (L.length : Int)) = true by assumption)) ?_; conv => whnf)
    | (refine force_eq (h1.at3 (i := i.toNat) (by omega) (by have := hI.lo; have := (of_decide_eq_true (show decide (i < (L.length : Int)) = true by assumption)); omega)) ?_; conv => whnf)
    | (refine CallOK.useR (c_hb1 (x := (L.getD i.toNat (0, 0, 0))) h2 hm) [1, 2] rfl rfl rfl ⟨⟨⟨_, rfl, .plain rfl (fun _ h_ => by first | exact h_ | cases h_) (RowO.all h2)⟩⟩, ⟨⟨_, rfl, .lit rfl (fun _ h_ => by first | exact h_ | cases h_) (fun v hv => okB0_spec (allL_spec rfl v hv))⟩⟩, trivial⟩ (fun v_ mem_ hR => ?_); obtain ⟨rfl, rfl⟩ := hR; refine ⟨rfl, ?_⟩; conv => whnf)
    | (exact out_forget [] ⟨_, hI.hit (of_decide_eq_true (show decide (i < (L.length : Int)) = true by assumption)) (by assumption), rfl, rfl⟩ rfl (okB2_spec rfl) ⟨⟨⟨_, rfl, .plain rfl rfl (RowO.all h1)⟩⟩, ⟨⟨_, rfl, .plain rfl rfl (RowO.all h2)⟩⟩, ⟨⟨_, rfl, .lit rfl rfl (fun v hv => okB0_spec (allL_spec rfl v hv))⟩⟩, trivial⟩ rfl rfl)
    | (exact out_forget [] ⟨_, hI.fin (of_decide_eq_false (show decide (i < (L.length : Int)) = false by assumption)), rfl, rfl⟩ rfl (okB2_spec rfl) ⟨⟨⟨_, rfl, .plain rfl rfl (RowO.all h1)⟩⟩, ⟨⟨_, rfl, .plain rfl rfl (RowO.all h2)⟩⟩, ⟨⟨_, rfl, .lit rfl rfl (fun v hv => okB0_spec (allL_spec rfl v hv))⟩⟩, trivial⟩ rfl rfl)
    | (refine StoreK.mk rfl ?_; conv => whnf)
    | exact join_same
    | exact (by assumption : (_ : Bool) = (_ : Bool))
    | (refine br_true (by assumption) ?_; conv => whnf)
    | (refine br_false (by assumption) ?_; conv => whnf)
    | (refine br_not ?_; conv => whnf)
    | (refine br_code ?_; conv => whnf)
    | (with_reducible refine br_and ?_; conv => whnf)
    | (with_reducible refine br_or ?_; conv => whnf)
    | (refine br_eq2 ?_; conv => whnf)
    | (refine draw_auto (by decide +kernel) ?_; conv => whnf)
    | (refine draw_asg (by decide +kernel) ?_; conv => whnf)
    | (refine draw_st (by decide +kernel) ?_; conv => whnf)
    | (refine draw_call (by decide +kernel) ?_; conv => whnf)
    | (refine enter_same (loop_n 12 ?_); conv => whnf)
    | (refine next_same ?_; conv => whnf)
    | (refine mapK_row (by assumption) ?_; conv => whnf)
    | (refine mapK_plain (Plain.of rfl) ?_; conv => whnf)
    | (refine mapK_lit ?_; conv => whnf)
    | (refine br_split (fun _ => ?_) (fun _ => ?_) <;> conv => whnf)
    | exact (rfl : (_ : Value) = _)
    | (simp only [*]; exact (rfl : (_ : Value) = _))
    | (simp [*]; done))

end Go.Proofs.Ytndmkibdcfpddaa
