/-
  Several texts of this work in one (a claim holds at most 60 files).
  Conditions: as each contract states.
-/
import Derived.Test.YtndmkibdcfpddaaGreatK162
import Derived.Test.YtndmkibdcfpddaaGreatCut
section
/-
  Contracts of functions of the program (printed by a program of this work; Lean checks each).
  Conditions: as each contract states.
-/
namespace Go.Proofs.YtndmkibdcfpddaaGreat
open Go.Ev Go.RowKit
set_option maxRecDepth 100000
set_option linter.unusedVariables false
set_option linter.unusedSimpArgs false

attribute [local irreducible] isConeF isSpF sizeF volF hilO boxO co0 co1 co2 crF lnF plusF

set_option maxHeartbeats 16000000 in
theorem cn_L4nn {zs : List Int} {off n c : Nat} {e1 : Int} {e2 : Int} (hz : n ≤ zs.length) (hb : ∀ z ∈ zs, IsByte z) (hn : n ≤ 4096) (he1 : ¬ e1 = 0) (he2 : ¬ e2 = 0) : ev Tryz.prog tbl 1 (tlC 8 (tlC 11 (tlC 3 (tlC 5 (code3))))) (cnW (.slice (some ⟨0, off, none⟩) n c) wild (.slice none 0 0) (ii e1) wild wild (ii e2) wild wild wild wild wild wild) [(away off (bl zs), none)] (finP tbl Tryz.f3.results.toList (OutK 1 (fun v m_ => v = bb true ∧ m_ = [(away off (bl zs), none)]))) := by
  
  conv => whnf
  all_goals (repeat' first | (refine br_false (decide_eq_false he2) ?_; conv => whnf) | (refine br_false (decide_eq_false he1) ?_; conv => whnf) | (show OutK _ _ _ _; exact out_forget [] ⟨congrArg Value.bool (decide_eq_true rfl), rfl⟩ rfl (okB2_spec rfl) ⟨⟨⟨_, rfl, .lit (away_conc (bl_plain _) _).symm rfl (away_ok (bl_plain _) _)⟩⟩, trivial⟩ rfl rfl) | (refine br_true ?_ ?_; (focus (simp; done)); conv => whnf) | (refine br_false ?_ ?_; (focus (simp; done)); conv => whnf) | (refine StoreK.mk rfl ?_; conv => whnf) | exact join_same | exact (by assumption : (_ : Bool) = (_ : Bool)) | (refine br_true (by assumption) ?_; conv => whnf) | (refine br_false (by assumption) ?_; conv => whnf) | (refine br_not ?_; conv => whnf) | (refine br_code ?_; conv => whnf) | (with_reducible refine br_and ?_; conv => whnf) | (with_reducible refine br_or ?_; conv => whnf) | (refine br_eq2 ?_; conv => whnf) | (refine draw_auto (by decide +kernel) ?_; conv => whnf) | (refine draw_asg (by decide +kernel) ?_; conv => whnf) | (refine draw_st (by decide +kernel) ?_; conv => whnf) | (refine draw_call (by decide +kernel) ?_; conv => whnf) | (refine enter_same (loop_n 4 ?_); conv => whnf) | (refine next_same ?_; conv => whnf) | (refine mapK_row (by assumption) ?_; conv => whnf) | (refine mapK_plain (Plain.of rfl) ?_; conv => whnf) | (refine mapK_lit ?_; conv => whnf) | (refine br_split (fun _ => ?_) (fun _ => ?_) <;> conv => whnf) | exact (rfl : (_ : Value) = _) | (simp only [*]; exact (rfl : (_ : Value) = _)) | (simp [*]; done))

end Go.Proofs.YtndmkibdcfpddaaGreat
end

section
/-
  Contracts of functions of the program (printed by a program of this work; Lean checks each).
  Conditions: as each contract states.
-/
namespace Go.Proofs.YtndmkibdcfpddaaGreat
open Go.Ev Go.RowKit
set_option maxRecDepth 100000
set_option linter.unusedVariables false
set_option linter.unusedSimpArgs false

attribute [local irreducible] isConeF isSpF sizeF volF hilO boxO co0 co1 co2 crF lnF plusF

set_option maxHeartbeats 16000000 in
theorem cn_L4no {zs : List Int} {off n c : Nat} {e1 : Int} {l : Cn} {n2 : Nat} {c2 : Nat} {s2 : List Value} (hz : n ≤ zs.length) (hb : ∀ z ∈ zs, IsByte z) (hn : n ≤ 4096) (he1 : ¬ e1 = 0) (hl : l.Ok) (hr2 : Row (sl (hilO l)) s2 n2 c2 3) : ev Tryz.prog tbl 1 (tlC 8 (tlC 11 (tlC 3 (tlC 5 (code3))))) (cnW (.slice (some ⟨0, off, none⟩) n c) wild (.slice none 0 0) (ii e1) (.pointer (some ⟨1, 0, none⟩)) (.slice (some ⟨2, 0, none⟩) n2 c2) (ii 0) wild wild wild wild wild wild) [(away off (bl zs), none), ([ii l.a, ii l.b, ii l.c, ii l.d, ii l.e, ii l.f, ii l.g, ii l.h, ii l.i], some t_impl_Cone), (sl (hilO l) ++ s2, some t_impl_Spot)] (finP tbl Tryz.f3.results.toList (OutK 1 (fun v m_ => v = bb true ∧ m_ = [(away off (bl zs), none)]))) := by
  
  conv => whnf
  all_goals (repeat' first | (refine enter_forget [1, 2] (loop_rec (fun (s : Int) => match s with | i => (cnW (.slice (some ⟨0, off, none⟩) n c) wild (.slice none 0 0) (ii e1) (.pointer (some ⟨1, 0, none⟩)) (.slice (some ⟨2, 0, none⟩) n2 c2) (ii 0) wild wild wild wild wild (ii i))) (fun (s : Int) => match s with | i => [(away off (bl zs), none), ([ii l.a, ii l.b, ii l.c, ii l.d, ii l.e, ii l.f, ii l.g, ii l.h, ii l.i], some t_impl_Cone), (sl (hilO l) ++ s2, some t_impl_Spot)]) (fun (s : Int) => match s with | i => ((n2 : Int) - i).toNat) (fun (s : Int) => match s with | i => 0 ≤ i ∧ i ≤ (n2 : Int)) (0) (by omega) ?_) (tmR_rfl rfl rfl) ⟨⟨⟨_, rfl, .lit (away_conc (bl_plain _) _).symm rfl (away_ok (bl_plain _) _)⟩⟩, ⟨⟨_, rfl, .plain rfl rfl (by first | exact Plain.of rfl | exact Row.all (by assumption))⟩⟩, ⟨⟨_, rfl, .plain rfl rfl (Row.all hr2)⟩⟩, trivial⟩ rfl rfl; rintro fuel_ i hI IH; replace hI : 0 ≤ i ∧ i ≤ (n2 : Int) := hI; conv => whnf) | exact next_forget [1, 2] (IH (w64 (i + 1)) (idx_next hI (by assumption) (by have := row_sl_le hl hr2; omega)) (idx_mu hI (by assumption) (by have := row_sl_le hl hr2; omega))) (tmR_rfl rfl rfl) ⟨⟨⟨_, rfl, .lit (away_conc (bl_plain _) _).symm rfl (away_ok (bl_plain _) _)⟩⟩, ⟨⟨_, rfl, .plain rfl rfl (by first | exact Plain.of rfl | exact Row.all (by assumption))⟩⟩, ⟨⟨_, rfl, .plain rfl rfl (Row.all hr2)⟩⟩, trivial⟩ rfl rfl | (refine (c_Reg_cone hl).call ?_; conv => whnf) | (refine (c_Reg_cone hl).quiet ?_; conv => whnf) | (refine br_false (hil_len3 hl hr2) ?_; conv => whnf) | (refine br_true (hil_reg3 hl hr2 (by assumption)) ?_; conv => whnf) | (refine br_in hI.1 (of_decide_eq_true (show decide (i < (n2 : Int)) = true by assumption)) ?_; conv => whnf) | (refine force_eq (take_sp (ps := hilO l) (i := i.toNat) ?_ ?_) ?_; (focus (simp only [Nat.zero_add]; done)); (focus (have h5_ := row_sl hr2; have := hI.1; have := (of_decide_eq_true (show decide (i < (n2 : Int)) = true by assumption)); omega)); conv => whnf) | (refine (c_In_cone hl (hil_at hl hr2 hI.1 (of_decide_eq_true (show decide (i < (n2 : Int)) = true by assumption)))).call ?_; conv => whnf) | (refine (c_In_cone hl (hil_at hl hr2 hI.1 (of_decide_eq_true (show decide (i < (n2 : Int)) = true by assumption)))).quiet ?_; conv => whnf) | (refine br_false (decide_eq_false he1) ?_; conv => whnf) | (show OutK _ _ _ _; exact out_forget [] ⟨congrArg Value.bool (decide_eq_true rfl), rfl⟩ rfl (okB2_spec rfl) ⟨⟨⟨_, rfl, .lit (away_conc (bl_plain _) _).symm rfl (away_ok (bl_plain _) _)⟩⟩, trivial⟩ rfl rfl) | (refine br_true ?_ ?_; (focus (simp; done)); conv => whnf) | (refine br_false ?_ ?_; (focus (simp; done)); conv => whnf) | (refine StoreK.mk rfl ?_; conv => whnf) | exact join_same | exact (by assumption : (_ : Bool) = (_ : Bool)) | (refine br_true (by assumption) ?_; conv => whnf) | (refine br_false (by assumption) ?_; conv => whnf) | (refine br_not ?_; conv => whnf) | (refine br_code ?_; conv => whnf) | (with_reducible refine br_and ?_; conv => whnf) | (with_reducible refine br_or ?_; conv => whnf) | (refine br_eq2 ?_; conv => whnf) | (refine draw_auto (by decide +kernel) ?_; conv => whnf) | (refine draw_asg (by decide +kernel) ?_; conv => whnf) | (refine draw_st (by decide +kernel) ?_; conv => whnf) | (refine draw_call (by decide +kernel) ?_; conv => whnf) | (refine enter_same (loop_n 4 ?_); conv => whnf) | (refine next_same ?_; conv => whnf) | (refine mapK_row (by assumption) ?_; conv => whnf) | (refine mapK_plain (Plain.of rfl) ?_; conv => whnf) | (refine mapK_lit ?_; conv => whnf) | (refine br_split (fun _ => ?_) (fun _ => ?_) <;> conv => whnf) | exact (rfl : (_ : Value) = _) | (simp only [*]; exact (rfl : (_ : Value) = _)) | (simp [*]; done))

end Go.Proofs.YtndmkibdcfpddaaGreat
end

section
/-
  Contracts of functions of the program (printed by a program of this work; Lean checks each).
  Conditions: as each contract states.
-/
namespace Go.Proofs.YtndmkibdcfpddaaGreat
open Go.Ev Go.RowKit
set_option maxRecDepth 100000
set_option linter.unusedVariables false
set_option linter.unusedSimpArgs false

attribute [local irreducible] isConeF isSpF sizeF volF hilO boxO co0 co1 co2 crF lnF plusF

set_option maxHeartbeats 16000000 in
theorem cn_L4on {zs : List Int} {off n c : Nat} {k : Cn} {n1 : Nat} {c1 : Nat} {s1 : List Value} {e2 : Int} (hz : n ≤ zs.length) (hb : ∀ z ∈ zs, IsByte z) (hn : n ≤ 4096) (hk : k.Ok) (hr1 : Row (sl (boxO k)) s1 n1 c1 3) (he2 : ¬ e2 = 0) : ev Tryz.prog tbl 1 (tlC 8 (tlC 11 (tlC 3 (tlC 5 (code3))))) (cnW (.slice (some ⟨0, off, none⟩) n c) (.pointer (some ⟨1, 0, none⟩)) (.slice (some ⟨2, 0, none⟩) n1 c1) (ii 0) wild wild (ii e2) wild wild wild wild wild wild) [(away off (bl zs), none), ([ii k.a, ii k.b, ii k.c, ii k.d, ii k.e, ii k.f, ii k.g, ii k.h, ii k.i], some t_impl_Cone), (sl (boxO k) ++ s1, some t_impl_Spot)] (finP tbl Tryz.f3.results.toList (OutK 1 (fun v m_ => v = bb true ∧ m_ = [(away off (bl zs), none)]))) := by
  
  conv => whnf
  all_goals (repeat' first | (refine br_false (decide_eq_false he2) ?_; conv => whnf) | (refine (c_DetS_cone (Cn.cone_F hk)).call ?_; conv => whnf) | (refine (c_DetS_cone (Cn.cone_F hk)).quiet ?_; conv => whnf) | (show OutK _ _ _ _; exact out_forget [] ⟨congrArg Value.bool (box_len hk hr1), rfl⟩ rfl (okB2_spec rfl) ⟨⟨⟨_, rfl, .lit (away_conc (bl_plain _) _).symm rfl (away_ok (bl_plain _) _)⟩⟩, trivial⟩ rfl rfl) | (refine br_true ?_ ?_; (focus (simp; done)); conv => whnf) | (refine br_false ?_ ?_; (focus (simp; done)); conv => whnf) | (refine StoreK.mk rfl ?_; conv => whnf) | exact join_same | exact (by assumption : (_ : Bool) = (_ : Bool)) | (refine br_true (by assumption) ?_; conv => whnf) | (refine br_false (by assumption) ?_; conv => whnf) | (refine br_not ?_; conv => whnf) | (refine br_code ?_; conv => whnf) | (with_reducible refine br_and ?_; conv => whnf) | (with_reducible refine br_or ?_; conv => whnf) | (refine br_eq2 ?_; conv => whnf) | (refine draw_auto (by decide +kernel) ?_; conv => whnf) | (refine draw_asg (by decide +kernel) ?_; conv => whnf) | (refine draw_st (by decide +kernel) ?_; conv => whnf) | (refine draw_call (by decide +kernel) ?_; conv => whnf) | (refine enter_same (loop_n 4 ?_); conv => whnf) | (refine next_same ?_; conv => whnf) | (refine mapK_row (by assumption) ?_; conv => whnf) | (refine mapK_plain (Plain.of rfl) ?_; conv => whnf) | (refine mapK_lit ?_; conv => whnf) | (refine br_split (fun _ => ?_) (fun _ => ?_) <;> conv => whnf) | exact (rfl : (_ : Value) = _) | (simp only [*]; exact (rfl : (_ : Value) = _)) | (simp [*]; done))

end Go.Proofs.YtndmkibdcfpddaaGreat
end

section
/-
  Contracts of functions of the program (printed by a program of this work; Lean checks each).
  Conditions: as each contract states.
-/
namespace Go.Proofs.YtndmkibdcfpddaaGreat
open Go.Ev Go.RowKit
set_option maxRecDepth 100000
set_option linter.unusedVariables false
set_option linter.unusedSimpArgs false

attribute [local irreducible] isConeF isSpF sizeF volF hilO boxO co0 co1 co2 crF lnF plusF

set_option maxHeartbeats 16000000 in
theorem cn_L4oo {zs : List Int} {off n c : Nat} {k : Cn} {n1 : Nat} {c1 : Nat} {s1 : List Value} {l : Cn} {n2 : Nat} {c2 : Nat} {s2 : List Value} (hz : n ≤ zs.length) (hb : ∀ z ∈ zs, IsByte z) (hn : n ≤ 4096) (hk : k.Ok) (hr1 : Row (sl (boxO k)) s1 n1 c1 3) (hl : l.Ok) (hr2 : Row (sl (hilO l)) s2 n2 c2 3) : ev Tryz.prog tbl 1 (tlC 8 (tlC 11 (tlC 3 (tlC 5 (code3))))) (cnW (.slice (some ⟨0, off, none⟩) n c) (.pointer (some ⟨1, 0, none⟩)) (.slice (some ⟨2, 0, none⟩) n1 c1) (ii 0) (.pointer (some ⟨3, 0, none⟩)) (.slice (some ⟨4, 0, none⟩) n2 c2) (ii 0) wild wild wild wild wild wild) [(away off (bl zs), none), ([ii k.a, ii k.b, ii k.c, ii k.d, ii k.e, ii k.f, ii k.g, ii k.h, ii k.i], some t_impl_Cone), (sl (boxO k) ++ s1, some t_impl_Spot), ([ii l.a, ii l.b, ii l.c, ii l.d, ii l.e, ii l.f, ii l.g, ii l.h, ii l.i], some t_impl_Cone), (sl (hilO l) ++ s2, some t_impl_Spot)] (finP tbl Tryz.f3.results.toList (OutK 1 (fun v m_ => v = bb true ∧ m_ = [(away off (bl zs), none)]))) := by
  
  conv => whnf
  all_goals (repeat' first | (refine enter_forget [1, 2, 3, 4] (loop_rec (fun (s : Int) => match s with | i => (cnW (.slice (some ⟨0, off, none⟩) n c) (.pointer (some ⟨1, 0, none⟩)) (.slice (some ⟨2, 0, none⟩) n1 c1) (ii 0) (.pointer (some ⟨3, 0, none⟩)) (.slice (some ⟨4, 0, none⟩) n2 c2) (ii 0) wild wild wild wild wild (ii i))) (fun (s : Int) => match s with | i => [(away off (bl zs), none), ([ii k.a, ii k.b, ii k.c, ii k.d, ii k.e, ii k.f, ii k.g, ii k.h, ii k.i], some t_impl_Cone), (sl (boxO k) ++ s1, some t_impl_Spot), ([ii l.a, ii l.b, ii l.c, ii l.d, ii l.e, ii l.f, ii l.g, ii l.h, ii l.i], some t_impl_Cone), (sl (hilO l) ++ s2, some t_impl_Spot)]) (fun (s : Int) => match s with | i => ((n2 : Int) - i).toNat) (fun (s : Int) => match s with | i => 0 ≤ i ∧ i ≤ (n2 : Int)) (0) (by omega) ?_) (tmR_rfl rfl rfl) ⟨⟨⟨_, rfl, .lit (away_conc (bl_plain _) _).symm rfl (away_ok (bl_plain _) _)⟩⟩, ⟨⟨_, rfl, .plain rfl rfl (by first | exact Plain.of rfl | exact Row.all (by assumption))⟩⟩, ⟨⟨_, rfl, .plain rfl rfl (Row.all hr1)⟩⟩, ⟨⟨_, rfl, .plain rfl rfl (by first | exact Plain.of rfl | exact Row.all (by assumption))⟩⟩, ⟨⟨_, rfl, .plain rfl rfl (Row.all hr2)⟩⟩, trivial⟩ rfl rfl; rintro fuel_ i hI IH; replace hI : 0 ≤ i ∧ i ≤ (n2 : Int) := hI; conv => whnf) | exact next_forget [1, 2, 3, 4] (IH (w64 (i + 1)) (idx_next hI (by assumption) (by have := row_sl_le hl hr2; omega)) (idx_mu hI (by assumption) (by have := row_sl_le hl hr2; omega))) (tmR_rfl rfl rfl) ⟨⟨⟨_, rfl, .lit (away_conc (bl_plain _) _).symm rfl (away_ok (bl_plain _) _)⟩⟩, ⟨⟨_, rfl, .plain rfl rfl (by first | exact Plain.of rfl | exact Row.all (by assumption))⟩⟩, ⟨⟨_, rfl, .plain rfl rfl (Row.all hr1)⟩⟩, ⟨⟨_, rfl, .plain rfl rfl (by first | exact Plain.of rfl | exact Row.all (by assumption))⟩⟩, ⟨⟨_, rfl, .plain rfl rfl (Row.all hr2)⟩⟩, trivial⟩ rfl rfl | (refine (c_Reg_cone hl).call ?_; conv => whnf) | (refine (c_Reg_cone hl).quiet ?_; conv => whnf) | (refine br_false (hil_len3 hl hr2) ?_; conv => whnf) | (refine br_true (hil_reg3 hl hr2 (by assumption)) ?_; conv => whnf) | (refine br_in hI.1 (of_decide_eq_true (show decide (i < (n2 : Int)) = true by assumption)) ?_; conv => whnf) | (refine force_eq (take_sp (ps := hilO l) (i := i.toNat) ?_ ?_) ?_; (focus (simp only [Nat.zero_add]; done)); (focus (have h5_ := row_sl hr2; have := hI.1; have := (of_decide_eq_true (show decide (i < (n2 : Int)) = true by assumption)); omega)); conv => whnf) | (refine (c_In_cone hl (hil_at hl hr2 hI.1 (of_decide_eq_true (show decide (i < (n2 : Int)) = true by assumption)))).call ?_; conv => whnf) | (refine (c_In_cone hl (hil_at hl hr2 hI.1 (of_decide_eq_true (show decide (i < (n2 : Int)) = true by assumption)))).quiet ?_; conv => whnf) | (refine (c_DetS_cone (Cn.cone_F hk)).call ?_; conv => whnf) | (refine (c_DetS_cone (Cn.cone_F hk)).quiet ?_; conv => whnf) | (show OutK _ _ _ _; exact out_forget [] ⟨congrArg Value.bool (box_len hk hr1), rfl⟩ rfl (okB2_spec rfl) ⟨⟨⟨_, rfl, .lit (away_conc (bl_plain _) _).symm rfl (away_ok (bl_plain _) _)⟩⟩, trivial⟩ rfl rfl) | (refine br_true ?_ ?_; (focus (simp; done)); conv => whnf) | (refine br_false ?_ ?_; (focus (simp; done)); conv => whnf) | (refine StoreK.mk rfl ?_; conv => whnf) | exact join_same | exact (by assumption : (_ : Bool) = (_ : Bool)) | (refine br_true (by assumption) ?_; conv => whnf) | (refine br_false (by assumption) ?_; conv => whnf) | (refine br_not ?_; conv => whnf) | (refine br_code ?_; conv => whnf) | (with_reducible refine br_and ?_; conv => whnf) | (with_reducible refine br_or ?_; conv => whnf) | (refine br_eq2 ?_; conv => whnf) | (refine draw_auto (by decide +kernel) ?_; conv => whnf) | (refine draw_asg (by decide +kernel) ?_; conv => whnf) | (refine draw_st (by decide +kernel) ?_; conv => whnf) | (refine draw_call (by decide +kernel) ?_; conv => whnf) | (refine enter_same (loop_n 4 ?_); conv => whnf) | (refine next_same ?_; conv => whnf) | (refine mapK_row (by assumption) ?_; conv => whnf) | (refine mapK_plain (Plain.of rfl) ?_; conv => whnf) | (refine mapK_lit ?_; conv => whnf) | (refine br_split (fun _ => ?_) (fun _ => ?_) <;> conv => whnf) | exact (rfl : (_ : Value) = _) | (simp only [*]; exact (rfl : (_ : Value) = _)) | (simp [*]; done))

end Go.Proofs.YtndmkibdcfpddaaGreat
end

section
/-
  Contracts of functions of the program (printed by a program of this work; Lean checks each).
  Conditions: as each contract states.
-/
namespace Go.Proofs.YtndmkibdcfpddaaGreat
open Go.Ev Go.RowKit
set_option maxRecDepth 100000
set_option linter.unusedVariables false
set_option linter.unusedSimpArgs false

attribute [local irreducible] isConeF isSpF sizeF volF hilO boxO co0 co1 co2 crF lnF plusF

set_option maxHeartbeats 16000000 in
theorem cn_N4nn  {e1 : Int} {e2 : Int}  (he1 : ¬ e1 = 0) (he2 : ¬ e2 = 0) : ev Tryz.prog tbl 0 (tlC 8 (tlC 11 (tlC 3 (tlC 5 (code3))))) (cnW (.slice none 0 0) wild (.slice none 0 0) (ii e1) wild wild (ii e2) wild wild wild wild wild wild) [] (finP tbl Tryz.f3.results.toList (OutK 0 (fun v m_ => v = bb true ∧ m_ = []))) := by
  
  conv => whnf
  all_goals (repeat' first | (refine br_false (decide_eq_false he2) ?_; conv => whnf) | (refine br_false (decide_eq_false he1) ?_; conv => whnf) | (show OutK _ _ _ _; exact out_forget [] ⟨congrArg Value.bool (decide_eq_true rfl), rfl⟩ rfl (okB2_spec rfl) trivial rfl rfl) | (refine br_true ?_ ?_; (focus (simp; done)); conv => whnf) | (refine br_false ?_ ?_; (focus (simp; done)); conv => whnf) | (refine StoreK.mk rfl ?_; conv => whnf) | exact join_same | exact (by assumption : (_ : Bool) = (_ : Bool)) | (refine br_true (by assumption) ?_; conv => whnf) | (refine br_false (by assumption) ?_; conv => whnf) | (refine br_not ?_; conv => whnf) | (refine br_code ?_; conv => whnf) | (with_reducible refine br_and ?_; conv => whnf) | (with_reducible refine br_or ?_; conv => whnf) | (refine br_eq2 ?_; conv => whnf) | (refine draw_auto (by decide +kernel) ?_; conv => whnf) | (refine draw_asg (by decide +kernel) ?_; conv => whnf) | (refine draw_st (by decide +kernel) ?_; conv => whnf) | (refine draw_call (by decide +kernel) ?_; conv => whnf) | (refine enter_same (loop_n 4 ?_); conv => whnf) | (refine next_same ?_; conv => whnf) | (refine mapK_row (by assumption) ?_; conv => whnf) | (refine mapK_plain (Plain.of rfl) ?_; conv => whnf) | (refine mapK_lit ?_; conv => whnf) | (refine br_split (fun _ => ?_) (fun _ => ?_) <;> conv => whnf) | exact (rfl : (_ : Value) = _) | (simp only [*]; exact (rfl : (_ : Value) = _)) | (simp [*]; done))

end Go.Proofs.YtndmkibdcfpddaaGreat
end

section
/-
  Contracts of functions of the program (printed by a program of this work; Lean checks each).
  Conditions: as each contract states.
-/
namespace Go.Proofs.YtndmkibdcfpddaaGreat
open Go.Ev Go.RowKit
set_option maxRecDepth 100000
set_option linter.unusedVariables false
set_option linter.unusedSimpArgs false

attribute [local irreducible] isConeF isSpF sizeF volF hilO boxO co0 co1 co2 crF lnF plusF

set_option maxHeartbeats 16000000 in
theorem cn_N4no  {e1 : Int} {l : Cn} {n2 : Nat} {c2 : Nat} {s2 : List Value}  (he1 : ¬ e1 = 0) (hl : l.Ok) (hr2 : Row (sl (hilO l)) s2 n2 c2 3) : ev Tryz.prog tbl 0 (tlC 8 (tlC 11 (tlC 3 (tlC 5 (code3))))) (cnW (.slice none 0 0) wild (.slice none 0 0) (ii e1) (.pointer (some ⟨0, 0, none⟩)) (.slice (some ⟨1, 0, none⟩) n2 c2) (ii 0) wild wild wild wild wild wild) [([ii l.a, ii l.b, ii l.c, ii l.d, ii l.e, ii l.f, ii l.g, ii l.h, ii l.i], some t_impl_Cone), (sl (hilO l) ++ s2, some t_impl_Spot)] (finP tbl Tryz.f3.results.toList (OutK 0 (fun v m_ => v = bb true ∧ m_ = []))) := by
  
  conv => whnf
  all_goals (repeat' first | (refine enter_forget [0, 1] (loop_rec (fun (s : Int) => match s with | i => (cnW (.slice none 0 0) wild (.slice none 0 0) (ii e1) (.pointer (some ⟨0, 0, none⟩)) (.slice (some ⟨1, 0, none⟩) n2 c2) (ii 0) wild wild wild wild wild (ii i))) (fun (s : Int) => match s with | i => [([ii l.a, ii l.b, ii l.c, ii l.d, ii l.e, ii l.f, ii l.g, ii l.h, ii l.i], some t_impl_Cone), (sl (hilO l) ++ s2, some t_impl_Spot)]) (fun (s : Int) => match s with | i => ((n2 : Int) - i).toNat) (fun (s : Int) => match s with | i => 0 ≤ i ∧ i ≤ (n2 : Int)) (0) (by omega) ?_) (tmR_rfl rfl rfl) ⟨⟨⟨_, rfl, .plain rfl rfl (by first | exact Plain.of rfl | exact Row.all (by assumption))⟩⟩, ⟨⟨_, rfl, .plain rfl rfl (Row.all hr2)⟩⟩, trivial⟩ rfl rfl; rintro fuel_ i hI IH; replace hI : 0 ≤ i ∧ i ≤ (n2 : Int) := hI; conv => whnf) | exact next_forget [0, 1] (IH (w64 (i + 1)) (idx_next hI (by assumption) (by have := row_sl_le hl hr2; omega)) (idx_mu hI (by assumption) (by have := row_sl_le hl hr2; omega))) (tmR_rfl rfl rfl) ⟨⟨⟨_, rfl, .plain rfl rfl (by first | exact Plain.of rfl | exact Row.all (by assumption))⟩⟩, ⟨⟨_, rfl, .plain rfl rfl (Row.all hr2)⟩⟩, trivial⟩ rfl rfl | (refine (c_Reg_cone hl).call ?_; conv => whnf) | (refine (c_Reg_cone hl).quiet ?_; conv => whnf) | (refine br_false (hil_len3 hl hr2) ?_; conv => whnf) | (refine br_true (hil_reg3 hl hr2 (by assumption)) ?_; conv => whnf) | (refine br_in hI.1 (of_decide_eq_true (show decide (i < (n2 : Int)) = true by assumption)) ?_; conv => whnf) | (refine force_eq (take_sp (ps := hilO l) (i := i.toNat) ?_ ?_) ?_; (focus (simp only [Nat.zero_add]; done)); (focus (have h5_ := row_sl hr2; have := hI.1; have := (of_decide_eq_true (show decide (i < (n2 : Int)) = true by assumption)); omega)); conv => whnf) | (refine (c_In_cone hl (hil_at hl hr2 hI.1 (of_decide_eq_true (show decide (i < (n2 : Int)) = true by assumption)))).call ?_; conv => whnf) | (refine (c_In_cone hl (hil_at hl hr2 hI.1 (of_decide_eq_true (show decide (i < (n2 : Int)) = true by assumption)))).quiet ?_; conv => whnf) | (refine br_false (decide_eq_false he1) ?_; conv => whnf) | (show OutK _ _ _ _; exact out_forget [] ⟨congrArg Value.bool (decide_eq_true rfl), rfl⟩ rfl (okB2_spec rfl) trivial rfl rfl) | (refine br_true ?_ ?_; (focus (simp; done)); conv => whnf) | (refine br_false ?_ ?_; (focus (simp; done)); conv => whnf) | (refine StoreK.mk rfl ?_; conv => whnf) | exact join_same | exact (by assumption : (_ : Bool) = (_ : Bool)) | (refine br_true (by assumption) ?_; conv => whnf) | (refine br_false (by assumption) ?_; conv => whnf) | (refine br_not ?_; conv => whnf) | (refine br_code ?_; conv => whnf) | (with_reducible refine br_and ?_; conv => whnf) | (with_reducible refine br_or ?_; conv => whnf) | (refine br_eq2 ?_; conv => whnf) | (refine draw_auto (by decide +kernel) ?_; conv => whnf) | (refine draw_asg (by decide +kernel) ?_; conv => whnf) | (refine draw_st (by decide +kernel) ?_; conv => whnf) | (refine draw_call (by decide +kernel) ?_; conv => whnf) | (refine enter_same (loop_n 4 ?_); conv => whnf) | (refine next_same ?_; conv => whnf) | (refine mapK_row (by assumption) ?_; conv => whnf) | (refine mapK_plain (Plain.of rfl) ?_; conv => whnf) | (refine mapK_lit ?_; conv => whnf) | (refine br_split (fun _ => ?_) (fun _ => ?_) <;> conv => whnf) | exact (rfl : (_ : Value) = _) | (simp only [*]; exact (rfl : (_ : Value) = _)) | (simp [*]; done))

end Go.Proofs.YtndmkibdcfpddaaGreat
end

section
/-
  Contracts of functions of the program (printed by a program of this work; Lean checks each).
  Conditions: as each contract states.
-/
namespace Go.Proofs.YtndmkibdcfpddaaGreat
open Go.Ev Go.RowKit
set_option maxRecDepth 100000
set_option linter.unusedVariables false
set_option linter.unusedSimpArgs false

attribute [local irreducible] isConeF isSpF sizeF volF hilO boxO co0 co1 co2 crF lnF plusF

set_option maxHeartbeats 16000000 in
theorem cn_N4on  {k : Cn} {n1 : Nat} {c1 : Nat} {s1 : List Value} {e2 : Int}  (hk : k.Ok) (hr1 : Row (sl (boxO k)) s1 n1 c1 3) (he2 : ¬ e2 = 0) : ev Tryz.prog tbl 0 (tlC 8 (tlC 11 (tlC 3 (tlC 5 (code3))))) (cnW (.slice none 0 0) (.pointer (some ⟨0, 0, none⟩)) (.slice (some ⟨1, 0, none⟩) n1 c1) (ii 0) wild wild (ii e2) wild wild wild wild wild wild) [([ii k.a, ii k.b, ii k.c, ii k.d, ii k.e, ii k.f, ii k.g, ii k.h, ii k.i], some t_impl_Cone), (sl (boxO k) ++ s1, some t_impl_Spot)] (finP tbl Tryz.f3.results.toList (OutK 0 (fun v m_ => v = bb true ∧ m_ = []))) := by
  
  conv => whnf
  all_goals (repeat' first | (refine br_false (decide_eq_false he2) ?_; conv => whnf) | (refine (c_DetS_cone (Cn.cone_F hk)).call ?_; conv => whnf) | (refine (c_DetS_cone (Cn.cone_F hk)).quiet ?_; conv => whnf) | (show OutK _ _ _ _; exact out_forget [] ⟨congrArg Value.bool (box_len hk hr1), rfl⟩ rfl (okB2_spec rfl) trivial rfl rfl) | (refine br_true ?_ ?_; (focus (simp; done)); conv => whnf) | (refine br_false ?_ ?_; (focus (simp; done)); conv => whnf) | (refine StoreK.mk rfl ?_; conv => whnf) | exact join_same | exact (by assumption : (_ : Bool) = (_ : Bool)) | (refine br_true (by assumption) ?_; conv => whnf) | (refine br_false (by assumption) ?_; conv => whnf) | (refine br_not ?_; conv => whnf) | (refine br_code ?_; conv => whnf) | (with_reducible refine br_and ?_; conv => whnf) | (with_reducible refine br_or ?_; conv => whnf) | (refine br_eq2 ?_; conv => whnf) | (refine draw_auto (by decide +kernel) ?_; conv => whnf) | (refine draw_asg (by decide +kernel) ?_; conv => whnf) | (refine draw_st (by decide +kernel) ?_; conv => whnf) | (refine draw_call (by decide +kernel) ?_; conv => whnf) | (refine enter_same (loop_n 4 ?_); conv => whnf) | (refine next_same ?_; conv => whnf) | (refine mapK_row (by assumption) ?_; conv => whnf) | (refine mapK_plain (Plain.of rfl) ?_; conv => whnf) | (refine mapK_lit ?_; conv => whnf) | (refine br_split (fun _ => ?_) (fun _ => ?_) <;> conv => whnf) | exact (rfl : (_ : Value) = _) | (simp only [*]; exact (rfl : (_ : Value) = _)) | (simp [*]; done))

end Go.Proofs.YtndmkibdcfpddaaGreat
end

section
/-
  Contracts of functions of the program (printed by a program of this work; Lean checks each).
  Conditions: as each contract states.
-/
namespace Go.Proofs.YtndmkibdcfpddaaGreat
open Go.Ev Go.RowKit
set_option maxRecDepth 100000
set_option linter.unusedVariables false
set_option linter.unusedSimpArgs false

attribute [local irreducible] isConeF isSpF sizeF volF hilO boxO co0 co1 co2 crF lnF plusF

set_option maxHeartbeats 16000000 in
theorem cn_N4oo  {k : Cn} {n1 : Nat} {c1 : Nat} {s1 : List Value} {l : Cn} {n2 : Nat} {c2 : Nat} {s2 : List Value}  (hk : k.Ok) (hr1 : Row (sl (boxO k)) s1 n1 c1 3) (hl : l.Ok) (hr2 : Row (sl (hilO l)) s2 n2 c2 3) : ev Tryz.prog tbl 0 (tlC 8 (tlC 11 (tlC 3 (tlC 5 (code3))))) (cnW (.slice none 0 0) (.pointer (some ⟨0, 0, none⟩)) (.slice (some ⟨1, 0, none⟩) n1 c1) (ii 0) (.pointer (some ⟨2, 0, none⟩)) (.slice (some ⟨3, 0, none⟩) n2 c2) (ii 0) wild wild wild wild wild wild) [([ii k.a, ii k.b, ii k.c, ii k.d, ii k.e, ii k.f, ii k.g, ii k.h, ii k.i], some t_impl_Cone), (sl (boxO k) ++ s1, some t_impl_Spot), ([ii l.a, ii l.b, ii l.c, ii l.d, ii l.e, ii l.f, ii l.g, ii l.h, ii l.i], some t_impl_Cone), (sl (hilO l) ++ s2, some t_impl_Spot)] (finP tbl Tryz.f3.results.toList (OutK 0 (fun v m_ => v = bb true ∧ m_ = []))) := by
  
  conv => whnf
  all_goals (repeat' first | (refine enter_forget [0, 1, 2, 3] (loop_rec (fun (s : Int) => match s with | i => (cnW (.slice none 0 0) (.pointer (some ⟨0, 0, none⟩)) (.slice (some ⟨1, 0, none⟩) n1 c1) (ii 0) (.pointer (some ⟨2, 0, none⟩)) (.slice (some ⟨3, 0, none⟩) n2 c2) (ii 0) wild wild wild wild wild (ii i))) (fun (s : Int) => match s with | i => [([ii k.a, ii k.b, ii k.c, ii k.d, ii k.e, ii k.f, ii k.g, ii k.h, ii k.i], some t_impl_Cone), (sl (boxO k) ++ s1, some t_impl_Spot), ([ii l.a, ii l.b, ii l.c, ii l.d, ii l.e, ii l.f, ii l.g, ii l.h, ii l.i], some t_impl_Cone), (sl (hilO l) ++ s2, some t_impl_Spot)]) (fun (s : Int) => match s with | i => ((n2 : Int) - i).toNat) (fun (s : Int) => match s with | i => 0 ≤ i ∧ i ≤ (n2 : Int)) (0) (by omega) ?_) (tmR_rfl rfl rfl) ⟨⟨⟨_, rfl, .plain rfl rfl (by first | exact Plain.of rfl | exact Row.all (by assumption))⟩⟩, ⟨⟨_, rfl, .plain rfl rfl (Row.all hr1)⟩⟩, ⟨⟨_, rfl, .plain rfl rfl (by first | exact Plain.of rfl | exact Row.all (by assumption))⟩⟩, ⟨⟨_, rfl, .plain rfl rfl (Row.all hr2)⟩⟩, trivial⟩ rfl rfl; rintro fuel_ i hI IH; replace hI : 0 ≤ i ∧ i ≤ (n2 : Int) := hI; conv => whnf) | exact next_forget [0, 1, 2, 3] (IH (w64 (i + 1)) (idx_next hI (by assumption) (by have := row_sl_le hl hr2; omega)) (idx_mu hI (by assumption) (by have := row_sl_le hl hr2; omega))) (tmR_rfl rfl rfl) ⟨⟨⟨_, rfl, .plain rfl rfl (by first | exact Plain.of rfl | exact Row.all (by assumption))⟩⟩, ⟨⟨_, rfl, .plain rfl rfl (Row.all hr1)⟩⟩, ⟨⟨_, rfl, .plain rfl rfl (by first | exact Plain.of rfl | exact Row.all (by assumption))⟩⟩, ⟨⟨_, rfl, .plain rfl rfl (Row.all hr2)⟩⟩, trivial⟩ rfl rfl | (refine (c_Reg_cone hl).call ?_; conv => whnf) | (refine (c_Reg_cone hl).quiet ?_; conv => whnf) | (refine br_false (hil_len3 hl hr2) ?_; conv => whnf) | (refine br_true (hil_reg3 hl hr2 (by assumption)) ?_; conv => whnf) | (refine br_in hI.1 (of_decide_eq_true (show decide (i < (n2 : Int)) = true by assumption)) ?_; conv => whnf) | (refine force_eq (take_sp (ps := hilO l) (i := i.toNat) ?_ ?_) ?_; (focus (simp only [Nat.zero_add]; done)); (focus (have h5_ := row_sl hr2; have := hI.1; have := (of_decide_eq_true (show decide (i < (n2 : Int)) = true by assumption)); omega)); conv => whnf) | (refine (c_In_cone hl (hil_at hl hr2 hI.1 (of_decide_eq_true (show decide (i < (n2 : Int)) = true by assumption)))).call ?_; conv => whnf) | (refine (c_In_cone hl (hil_at hl hr2 hI.1 (of_decide_eq_true (show decide (i < (n2 : Int)) = true by assumption)))).quiet ?_; conv => whnf) | (refine (c_DetS_cone (Cn.cone_F hk)).call ?_; conv => whnf) | (refine (c_DetS_cone (Cn.cone_F hk)).quiet ?_; conv => whnf) | (show OutK _ _ _ _; exact out_forget [] ⟨congrArg Value.bool (box_len hk hr1), rfl⟩ rfl (okB2_spec rfl) trivial rfl rfl) | (refine br_true ?_ ?_; (focus (simp; done)); conv => whnf) | (refine br_false ?_ ?_; (focus (simp; done)); conv => whnf) | (refine StoreK.mk rfl ?_; conv => whnf) | exact join_same | exact (by assumption : (_ : Bool) = (_ : Bool)) | (refine br_true (by assumption) ?_; conv => whnf) | (refine br_false (by assumption) ?_; conv => whnf) | (refine br_not ?_; conv => whnf) | (refine br_code ?_; conv => whnf) | (with_reducible refine br_and ?_; conv => whnf) | (with_reducible refine br_or ?_; conv => whnf) | (refine br_eq2 ?_; conv => whnf) | (refine draw_auto (by decide +kernel) ?_; conv => whnf) | (refine draw_asg (by decide +kernel) ?_; conv => whnf) | (refine draw_st (by decide +kernel) ?_; conv => whnf) | (refine draw_call (by decide +kernel) ?_; conv => whnf) | (refine enter_same (loop_n 4 ?_); conv => whnf) | (refine next_same ?_; conv => whnf) | (refine mapK_row (by assumption) ?_; conv => whnf) | (refine mapK_plain (Plain.of rfl) ?_; conv => whnf) | (refine mapK_lit ?_; conv => whnf) | (refine br_split (fun _ => ?_) (fun _ => ?_) <;> conv => whnf) | exact (rfl : (_ : Value) = _) | (simp only [*]; exact (rfl : (_ : Value) = _)) | (simp [*]; done))

end Go.Proofs.YtndmkibdcfpddaaGreat
end
