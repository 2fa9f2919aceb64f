/-
  Several texts of this work in one (a claim holds at most 60 files).
  Conditions: as each contract states.
-/
import Derived.Test.YtndmkibdcfpddaaGreatHyb
import Derived.Test.YtndmkibdcfpddaaGreatKM2
import Derived.Maps.OwnOps
import Derived.Maps.Views
import Derived.DeepKeys4
section
/-
  Contracts of functions of the program (printed by a program of this work; Lean checks each).
  Conditions: as each contract states.
-/
namespace Go.Proofs.YtndmkibdcfpddaaGreat
open Go.Ev Go.RowKit
set_option maxRecDepth 100000
set_option linter.unusedVariables false
set_option linter.unusedSimpArgs false

noncomputable def bx2 : Code := gR (gR code38)
noncomputable def bxX2 : Code := gL (gL bx2)
noncomputable def bxOB : Code := gLp (gB (gR (gL bx2)))
noncomputable def bxZ : Code := gR bx2
noncomputable def bxH1 : Code := gL bxOB
noncomputable def bxB1 : Code := gB (gL (gR bxOB))
noncomputable def bxR4 : Code := gR (gR bxOB)
noncomputable def bxX5 : Code := gL bxB1
noncomputable def bxIB : Code := gLp (gB (gR bxB1))
noncomputable def bxRB : Code := gB (gL (gR (gR bxIB)))
noncomputable def bxR19 : Code := gR (gR (gR bxIB))
noncomputable def bxQ : Code := gR (gR (gR (gR (gR bxRB))))
noncomputable def bxO16 : List Oper := gO (gL bxQ)
noncomputable def bxCT : Code := gT (gR bxQ)
noncomputable def bxO17 : List Oper := gO (gL bxCT)
noncomputable def bxR18 : Code := gR bxCT
noncomputable def bxO1 : List Oper := gO (gL (gR code38))
theorem bx_1 : gR code38 = .seq (.region 1 bxO1.toArray true) bx2 := by kernel_rfl
theorem bx_2 : bx2 = .seq (.seq bxX2 (.block 0 (.loop bxOB))) bxZ := by kernel_rfl
theorem bx_OB : bxOB = .seq bxH1 (.seq (.block 1 bxB1) bxR4) := by kernel_rfl
theorem bx_B1 : bxB1 = .seq bxX5 (.block 2 (.loop bxIB)) := by kernel_rfl
theorem bx_IB : tlC 2 bxIB = .seq (.block 3 bxRB) bxR19 := by kernel_rfl
theorem bx_Q : tlC 5 bxRB = .seq (.region 16 bxO16.toArray false) (.cond (.tmp 53) bxCT .skip) := by kernel_rfl
theorem bx_CT : bxCT = .seq (.region 17 bxO17.toArray false) bxR18 := by kernel_rfl
theorem sm_own0 {k : Cn} (h : k.Ok) (j : Nat) : Sm3 (unit3 j) := by
  match j with
  | 0 => exact ⟨by decide, by decide, by decide⟩
  | 1 => exact ⟨by decide, by decide, by decide⟩
  | _ + 2 => exact (⟨by decide, by decide, by decide⟩ : Sm3 (0, 0, 1))
theorem c_coord_unit {k : Cn} (h : k.Ok) (j : Nat) : Pure Tryz.prog n_impl_Cone_coordinates [v9 k.a k.b k.c k.d k.e k.f k.g k.h k.i, v3 (unit3 j).1 (unit3 j).2.1 (unit3 j).2.2] (v3 (k.own (unit3 j)).1 (k.own (unit3 j)).2.1 (k.own (unit3 j)).2.2) := by
  obtain ⟨e0, e1, e2⟩ := Cn.co_own h (sm_own0 h j)
  have := c_impl_Cone_coordinates (a := k.a) (b := k.b) (c := k.c) (d := k.d) (e := k.e) (f := k.f) (g := k.g) (h := k.h) (i := k.i) (x := (unit3 j).1) (y := (unit3 j).2.1) (z := (unit3 j).2.2)
  rw [e0, e1, e2] at this
  exact this
theorem c_plus_own {k : Cn} (h : k.Ok) {o : S3} (ho : k.Box o) (j : Nat) : Pure Tryz.prog n_impl_Spot_plus [v3 o.1 o.2.1 o.2.2, v3 (k.own (unit3 j)).1 (k.own (unit3 j)).2.1 (k.own (unit3 j)).2.2, ii 1] (v3 (add3 o (k.own (unit3 j))).1 (add3 o (k.own (unit3 j))).2.1 (add3 o (k.own (unit3 j))).2.2) := by
  obtain ⟨b0, b1, b2⟩ := Cn.own_bd h (sm_own0 h j)
  obtain ⟨c0, c1, c2⟩ := ho
  have hd := Cn.D_le h
  have := c_impl_Spot_plus (a := o.1) (b := o.2.1) (c := o.2.2) (x := (k.own (unit3 j)).1) (y := (k.own (unit3 j)).2.1) (z := (k.own (unit3 j)).2.2) (k := 1)
  rw [plus_in (by omega) (by omega), plus_in (by omega) (by omega), plus_in (by omega) (by omega), Int.one_mul, Int.one_mul, Int.one_mul] at this
  exact this
theorem c_mod_own {k : Cn} (h : k.Ok) {x : Int} (hx : -1000000 ≤ x ∧ x ≤ 1000000) : Pure Tryz.prog n_impl_mod [ii x, ii k.D] (ii (x % k.D)) := by
  have hd := Cn.D_le h
  have := c_impl_mod (a := x) (b := k.D) (decide_eq_false (by omega))
  rw [modF_eq (by omega) (by omega) (by omega) (by omega)] at this
  exact this
theorem nx_sm {k : Cn} (h : k.Ok) {o : S3} (ho : k.Box o) (j : Nat) : (-1000000 ≤ (add3 o (k.own (unit3 j))).1 ∧ (add3 o (k.own (unit3 j))).1 ≤ 1000000) ∧ (-1000000 ≤ (add3 o (k.own (unit3 j))).2.1 ∧ (add3 o (k.own (unit3 j))).2.1 ≤ 1000000) ∧ (-1000000 ≤ (add3 o (k.own (unit3 j))).2.2 ∧ (add3 o (k.own (unit3 j))).2.2 ≤ 1000000) := by
  obtain ⟨b0, b1, b2⟩ := Cn.own_bd h (sm_own0 h j)
  obtain ⟨c0, c1, c2⟩ := ho
  have hd := Cn.D_le h
  simp only [add3]
  omega

end Go.Proofs.YtndmkibdcfpddaaGreat
end

section
/-
  Contracts of functions of the program (printed by a program of this work; Lean checks each).
  Conditions: as each contract states.
-/
namespace Go.Proofs.YtndmkibdcfpddaaGreat
open Go.Ev Go.RowKit
set_option maxRecDepth 100000
set_option linter.unusedVariables false
set_option linter.unusedSimpArgs false

attribute [local irreducible] Cn.own Cn.D

set_option maxHeartbeats 2000000 in
theorem bx_h1 {k : Cn} {LI : List S3} {sp : List Value} {n e M : Nat} {i j : Int} {x : S3} (h1 : Row (sl LI) sp n e 3) : ev Tryz.prog tbl 0 bxH1 [wild, .pointer (some ⟨0, 0, none⟩), .slice none 0 0, ii k.D, .slice (some ⟨1, 0, none⟩) n e, .map (some M), ii i, wild, wild, wild, wild, wild, wild, wild, wild, wild, wild, wild, wild, wild, wild, wild, wild, wild, wild, wild, wild, wild, wild, wild, wild, wild, wild, wild, wild, wild, wild, wild, wild, wild, wild, wild, wild, wild, wild, wild, wild, wild, wild, wild, wild, wild, wild, wild, wild, wild, wild, wild, wild, wild, wild, wild] [([ii k.a, ii k.b, ii k.c, ii k.d, ii k.e, ii k.f, ii k.g, ii k.h, ii k.i], some t_impl_Cone), (sl LI ++ sp, some t_impl_Spot)] (fun e_ tm mem => match e_ with | .normal => ownAll mem = true ∧ (decide (i < (n : Int)) = true) ∧ NextK 0 (fun tm mem => tm = [wild, .pointer (some ⟨0, 0, none⟩), .slice none 0 0, ii k.D, .slice (some ⟨1, 0, none⟩) n e, .map (some M), ii i, wild, wild, wild, wild, wild, wild, wild, wild, wild, wild, wild, wild, wild, wild, wild, wild, wild, wild, wild, wild, wild, wild, wild, wild, wild, wild, wild, wild, wild, wild, wild, wild, wild, wild, wild, wild, wild, wild, wild, wild, wild, wild, wild, wild, wild, wild, wild, wild, wild, wild, wild, wild, wild, wild, wild] ∧ mem = [([ii k.a, ii k.b, ii k.c, ii k.d, ii k.e, ii k.f, ii k.g, ii k.h, ii k.i], some t_impl_Cone), (sl LI ++ sp, some t_impl_Spot)]) tm mem | .exit 0 => ownAll mem = true ∧ (decide (i < (n : Int)) = false) ∧ NextK 0 (fun tm mem => tm = [wild, .pointer (some ⟨0, 0, none⟩), .slice none 0 0, ii k.D, .slice (some ⟨1, 0, none⟩) n e, .map (some M), ii i, wild, wild, wild, wild, wild, wild, wild, wild, wild, wild, wild, wild, wild, wild, wild, wild, wild, wild, wild, wild, wild, wild, wild, wild, wild, wild, wild, wild, wild, wild, wild, wild, wild, wild, wild, wild, wild, wild, wild, wild, wild, wild, wild, wild, wild, wild, wild, wild, wild, wild, wild, wild, wild, wild, wild] ∧ mem = [([ii k.a, ii k.b, ii k.c, ii k.d, ii k.e, ii k.f, ii k.g, ii k.h, ii k.i], some t_impl_Cone), (sl LI ++ sp, some t_impl_Spot)]) tm mem | _ => False) := by
  
  conv => whnf
  all_goals (repeat' first | (refine ⟨rfl, by assumption, next_forget [0, 1] ⟨rfl, rfl⟩ (tmR_rfl rfl rfl) ⟨⟨⟨_, rfl, .plain rfl rfl (by first | exact Plain.of rfl | exact Row.all (by assumption))⟩⟩, ⟨⟨_, rfl, .plain rfl rfl (Row.all h1)⟩⟩, trivial⟩ rfl rfl⟩) | (refine StoreK.mk rfl ?_; conv => whnf) | exact join_same | exact (by assumption : (_ : Bool) = (_ : Bool)) | (refine br_true (by assumption) ?_; conv => whnf) | (refine br_false (by assumption) ?_; conv => whnf) | (refine br_not ?_; conv => whnf) | (refine br_code ?_; conv => whnf) | (with_reducible refine br_and ?_; conv => whnf) | (with_reducible refine br_or ?_; conv => whnf) | (refine br_eq2 ?_; conv => whnf) | (refine draw_auto (by decide +kernel) ?_; conv => whnf) | (refine draw_asg (by decide +kernel) ?_; conv => whnf) | (refine draw_st (by decide +kernel) ?_; conv => whnf) | (refine draw_call (by decide +kernel) ?_; conv => whnf) | (refine enter_same (loop_n 12 ?_); conv => whnf) | (refine next_same ?_; conv => whnf) | (refine mapK_row (by assumption) ?_; conv => whnf) | (refine mapK_plain (Plain.of rfl) ?_; conv => whnf) | (refine mapK_lit ?_; conv => whnf) | (refine br_split (fun _ => ?_) (fun _ => ?_) <;> conv => whnf) | exact (rfl : (_ : Value) = _) | (simp only [*]; exact (rfl : (_ : Value) = _)) | (simp [*]; done))

set_option maxHeartbeats 2000000 in
theorem bx_x5 {k : Cn} {LI : List S3} {sp : List Value} {n e M : Nat} {i j : Int} {x : S3} (h1 : Row (sl LI) sp n e 3) : ev Tryz.prog tbl 0 bxX5 [wild, .pointer (some ⟨0, 0, none⟩), .slice none 0 0, ii k.D, .slice (some ⟨1, 0, none⟩) n e, .map (some M), ii i, wild, wild, wild, wild, wild, wild, wild, wild, wild, wild, wild, wild, wild, wild, wild, wild, wild, wild, wild, wild, wild, wild, wild, wild, wild, wild, wild, wild, wild, wild, wild, wild, wild, wild, wild, wild, wild, wild, wild, wild, wild, wild, wild, wild, wild, wild, wild, wild, wild, wild, wild, wild, wild, wild, wild] [([ii k.a, ii k.b, ii k.c, ii k.d, ii k.e, ii k.f, ii k.g, ii k.h, ii k.i], some t_impl_Cone), (sl LI ++ sp, some t_impl_Spot)] (fun e_ tm mem => match e_ with | .normal => ownAll mem = true ∧ (True) ∧ NextK 0 (fun tm mem => tm = [wild, .pointer (some ⟨0, 0, none⟩), .slice none 0 0, ii k.D, .slice (some ⟨1, 0, none⟩) n e, .map (some M), ii i, wild, wild, wild, wild, wild, wild, wild, wild, wild, wild, wild, wild, wild, wild, wild, wild, wild, wild, ii 0, wild, wild, wild, wild, wild, wild, wild, wild, wild, wild, wild, wild, wild, wild, wild, wild, wild, wild, wild, wild, wild, wild, wild, wild, wild, wild, wild, wild, wild, wild, wild, wild, wild, wild, wild, wild] ∧ mem = [([ii k.a, ii k.b, ii k.c, ii k.d, ii k.e, ii k.f, ii k.g, ii k.h, ii k.i], some t_impl_Cone), (sl LI ++ sp, some t_impl_Spot)]) tm mem | _ => False) := by
  
  conv => whnf
  all_goals (repeat' first | (refine ⟨rfl, trivial, next_forget [0, 1] ⟨rfl, rfl⟩ (tmR_rfl rfl rfl) ⟨⟨⟨_, rfl, .plain rfl rfl (by first | exact Plain.of rfl | exact Row.all (by assumption))⟩⟩, ⟨⟨_, rfl, .plain rfl rfl (Row.all h1)⟩⟩, trivial⟩ rfl rfl⟩) | (refine StoreK.mk rfl ?_; conv => whnf) | exact join_same | exact (by assumption : (_ : Bool) = (_ : Bool)) | (refine br_true (by assumption) ?_; conv => whnf) | (refine br_false (by assumption) ?_; conv => whnf) | (refine br_not ?_; conv => whnf) | (refine br_code ?_; conv => whnf) | (with_reducible refine br_and ?_; conv => whnf) | (with_reducible refine br_or ?_; conv => whnf) | (refine br_eq2 ?_; conv => whnf) | (refine draw_auto (by decide +kernel) ?_; conv => whnf) | (refine draw_asg (by decide +kernel) ?_; conv => whnf) | (refine draw_st (by decide +kernel) ?_; conv => whnf) | (refine draw_call (by decide +kernel) ?_; conv => whnf) | (refine enter_same (loop_n 12 ?_); conv => whnf) | (refine next_same ?_; conv => whnf) | (refine mapK_row (by assumption) ?_; conv => whnf) | (refine mapK_plain (Plain.of rfl) ?_; conv => whnf) | (refine mapK_lit ?_; conv => whnf) | (refine br_split (fun _ => ?_) (fun _ => ?_) <;> conv => whnf) | exact (rfl : (_ : Value) = _) | (simp only [*]; exact (rfl : (_ : Value) = _)) | (simp [*]; done))

set_option maxHeartbeats 2000000 in
theorem bx_c26 {k : Cn} {LI : List S3} {sp : List Value} {n e M : Nat} {i j : Int} {x : S3} (h1 : Row (sl LI) sp n e 3) : evCut Tryz.prog tbl 0 2 bxIB [wild, .pointer (some ⟨0, 0, none⟩), .slice none 0 0, ii k.D, .slice (some ⟨1, 0, none⟩) n e, .map (some M), ii i, wild, wild, wild, wild, wild, wild, wild, wild, wild, wild, wild, wild, wild, wild, wild, wild, wild, wild, ii j, wild, wild, wild, wild, wild, wild, wild, wild, wild, wild, wild, wild, wild, wild, wild, wild, wild, wild, wild, wild, wild, wild, wild, wild, wild, wild, wild, wild, wild, wild, wild, wild, wild, wild, wild, wild] [([ii k.a, ii k.b, ii k.c, ii k.d, ii k.e, ii k.f, ii k.g, ii k.h, ii k.i], some t_impl_Cone), (sl LI ++ sp, some t_impl_Spot)] (fun e_ tm mem => match e_ with | .normal => ownAll mem = true ∧ (decide (j < 3) = true) ∧ NextK 0 (fun tm mem => tm = [wild, .pointer (some ⟨0, 0, none⟩), .slice none 0 0, ii k.D, .slice (some ⟨1, 0, none⟩) n e, .map (some M), ii i, wild, wild, wild, wild, wild, wild, wild, wild, wild, wild, wild, wild, wild, wild, wild, wild, wild, wild, ii j, wild, wild, wild, wild, wild, wild, wild, wild, wild, wild, wild, wild, wild, wild, wild, wild, wild, wild, wild, wild, wild, wild, wild, wild, wild, wild, wild, wild, wild, wild, wild, wild, wild, wild, wild, wild] ∧ mem = [([ii k.a, ii k.b, ii k.c, ii k.d, ii k.e, ii k.f, ii k.g, ii k.h, ii k.i], some t_impl_Cone), (sl LI ++ sp, some t_impl_Spot)]) tm mem | .exit 2 => ownAll mem = true ∧ (decide (j < 3) = false) ∧ NextK 0 (fun tm mem => tm = [wild, .pointer (some ⟨0, 0, none⟩), .slice none 0 0, ii k.D, .slice (some ⟨1, 0, none⟩) n e, .map (some M), ii i, wild, wild, wild, wild, wild, wild, wild, wild, wild, wild, wild, wild, wild, wild, wild, wild, wild, wild, wild, wild, wild, wild, wild, wild, wild, wild, wild, wild, wild, wild, wild, wild, wild, wild, wild, wild, wild, wild, wild, wild, wild, wild, wild, wild, wild, wild, wild, wild, wild, wild, wild, wild, wild, wild, wild] ∧ mem = [([ii k.a, ii k.b, ii k.c, ii k.d, ii k.e, ii k.f, ii k.g, ii k.h, ii k.i], some t_impl_Cone), (sl LI ++ sp, some t_impl_Spot)]) tm mem | _ => False) := by
  
  conv => whnf
  all_goals (repeat' first | (refine ⟨rfl, by assumption, next_forget [0, 1] ⟨rfl, rfl⟩ (tmR_rfl rfl rfl) ⟨⟨⟨_, rfl, .plain rfl rfl (by first | exact Plain.of rfl | exact Row.all (by assumption))⟩⟩, ⟨⟨_, rfl, .plain rfl rfl (Row.all h1)⟩⟩, trivial⟩ rfl rfl⟩) | (refine StoreK.mk rfl ?_; conv => whnf) | exact join_same | exact (by assumption : (_ : Bool) = (_ : Bool)) | (refine br_true (by assumption) ?_; conv => whnf) | (refine br_false (by assumption) ?_; conv => whnf) | (refine br_not ?_; conv => whnf) | (refine br_code ?_; conv => whnf) | (with_reducible refine br_and ?_; conv => whnf) | (with_reducible refine br_or ?_; conv => whnf) | (refine br_eq2 ?_; conv => whnf) | (refine draw_auto (by decide +kernel) ?_; conv => whnf) | (refine draw_asg (by decide +kernel) ?_; conv => whnf) | (refine draw_st (by decide +kernel) ?_; conv => whnf) | (refine draw_call (by decide +kernel) ?_; conv => whnf) | (refine enter_same (loop_n 12 ?_); conv => whnf) | (refine next_same ?_; conv => whnf) | (refine mapK_row (by assumption) ?_; conv => whnf) | (refine mapK_plain (Plain.of rfl) ?_; conv => whnf) | (refine mapK_lit ?_; conv => whnf) | (refine br_split (fun _ => ?_) (fun _ => ?_) <;> conv => whnf) | exact (rfl : (_ : Value) = _) | (simp only [*]; exact (rfl : (_ : Value) = _)) | (simp [*]; done))

set_option maxHeartbeats 2000000 in
theorem bx_rb0 {k : Cn} {LI : List S3} {sp : List Value} {n e M : Nat} {i j : Int} {x : S3} (h1 : Row (sl LI) sp n e 3) (hk : k.Ok) (hi0 : 0 ≤ i) (hi : i < (n : Int)) (hb : k.Box (LI.getD i.toNat (0, 0, 0))) : evCut Tryz.prog tbl 0 5 bxRB [wild, .pointer (some ⟨0, 0, none⟩), .slice none 0 0, ii k.D, .slice (some ⟨1, 0, none⟩) n e, .map (some M), ii i, wild, wild, wild, wild, wild, wild, wild, wild, wild, wild, wild, wild, wild, wild, wild, wild, wild, wild, ii 0, wild, wild, wild, wild, wild, wild, wild, wild, wild, wild, wild, wild, wild, wild, wild, wild, wild, wild, wild, wild, wild, wild, wild, wild, wild, wild, wild, wild, wild, wild, wild, wild, wild, wild, wild, wild] [([ii k.a, ii k.b, ii k.c, ii k.d, ii k.e, ii k.f, ii k.g, ii k.h, ii k.i], some t_impl_Cone), (sl LI ++ sp, some t_impl_Spot)] (fun e_ tm mem => match e_ with | .normal => ownAll mem = true ∧ (True) ∧ NextK 0 (fun tm mem => tm = [wild, .pointer (some ⟨0, 0, none⟩), .slice none 0 0, ii k.D, .slice (some ⟨1, 0, none⟩) n e, .map (some M), ii i, wild, wild, .pointer (some ⟨2, 0, none⟩), wild, wild, wild, wild, wild, wild, wild, wild, wild, wild, wild, wild, wild, wild, wild, ii 0, wild, wild, wild, wild, wild, wild, wild, wild, wild, wild, wild, wild, wild, wild, wild, wild, wild, wild, wild, wild, wild, wild, wild, wild, wild, wild, wild, wild, wild, wild, wild, wild, wild, wild, wild, wild] ∧ mem = [([ii k.a, ii k.b, ii k.c, ii k.d, ii k.e, ii k.f, ii k.g, ii k.h, ii k.i], some t_impl_Cone), (sl LI ++ sp, some t_impl_Spot), ([ii (k.nxI (LI.getD i.toNat (0, 0, 0)) 0).1, ii (k.nxI (LI.getD i.toNat (0, 0, 0)) 0).2.1, ii (k.nxI (LI.getD i.toNat (0, 0, 0)) 0).2.2], some t_impl_Spot)]) tm mem | _ => False) := by
  
  conv => whnf
  all_goals (repeat' first | (refine br_in hi0 hi ?_; conv => whnf) | (refine force_eq (take_sp (ps := LI) (i := i.toNat) ?_ ?_) ?_; (focus (simp only [Nat.zero_add]; done)); (focus (have h5_ := row_sl h1; omega)); conv => whnf) | (refine (c_coord_unit hk 0).call ?_; conv => whnf) | (refine (c_coord_unit hk 0).quiet ?_; conv => whnf) | (refine (c_plus_own hk hb 0).call ?_; conv => whnf) | (refine (c_plus_own hk hb 0).quiet ?_; conv => whnf) | (refine (c_mod_own hk (nx_sm hk hb 0).1).call ?_; conv => whnf) | (refine (c_mod_own hk (nx_sm hk hb 0).1).quiet ?_; conv => whnf) | (refine (c_mod_own hk (nx_sm hk hb 0).2.1).call ?_; conv => whnf) | (refine (c_mod_own hk (nx_sm hk hb 0).2.1).quiet ?_; conv => whnf) | (refine (c_mod_own hk (nx_sm hk hb 0).2.2).call ?_; conv => whnf) | (refine (c_mod_own hk (nx_sm hk hb 0).2.2).quiet ?_; conv => whnf) | (refine ⟨rfl, trivial, next_forget [0, 1, 3] ⟨rfl, rfl⟩ (tmR_rfl rfl rfl) ⟨⟨⟨_, rfl, .plain rfl rfl (by first | exact Plain.of rfl | exact Row.all (by assumption))⟩⟩, ⟨⟨_, rfl, .plain rfl rfl (Row.all h1)⟩⟩, ⟨⟨_, rfl, .plain rfl rfl (by first | exact Plain.of rfl | exact Row.all (by assumption))⟩⟩, trivial⟩ rfl rfl⟩) | (refine StoreK.mk rfl ?_; conv => whnf) | exact join_same | exact (by assumption : (_ : Bool) = (_ : Bool)) | (refine br_true (by assumption) ?_; conv => whnf) | (refine br_false (by assumption) ?_; conv => whnf) | (refine br_not ?_; conv => whnf) | (refine br_code ?_; conv => whnf) | (with_reducible refine br_and ?_; conv => whnf) | (with_reducible refine br_or ?_; conv => whnf) | (refine br_eq2 ?_; conv => whnf) | (refine draw_auto (by decide +kernel) ?_; conv => whnf) | (refine draw_asg (by decide +kernel) ?_; conv => whnf) | (refine draw_st (by decide +kernel) ?_; conv => whnf) | (refine draw_call (by decide +kernel) ?_; conv => whnf) | (refine enter_same (loop_n 12 ?_); conv => whnf) | (refine next_same ?_; conv => whnf) | (refine mapK_row (by assumption) ?_; conv => whnf) | (refine mapK_plain (Plain.of rfl) ?_; conv => whnf) | (refine mapK_lit ?_; conv => whnf) | (refine br_split (fun _ => ?_) (fun _ => ?_) <;> conv => whnf) | exact (rfl : (_ : Value) = _) | (simp only [*]; exact (rfl : (_ : Value) = _)) | (simp [*]; done))

set_option maxHeartbeats 2000000 in
theorem bx_rb1 {k : Cn} {LI : List S3} {sp : List Value} {n e M : Nat} {i j : Int} {x : S3} (h1 : Row (sl LI) sp n e 3) (hk : k.Ok) (hi0 : 0 ≤ i) (hi : i < (n : Int)) (hb : k.Box (LI.getD i.toNat (0, 0, 0))) : evCut Tryz.prog tbl 0 5 bxRB [wild, .pointer (some ⟨0, 0, none⟩), .slice none 0 0, ii k.D, .slice (some ⟨1, 0, none⟩) n e, .map (some M), ii i, wild, wild, wild, wild, wild, wild, wild, wild, wild, wild, wild, wild, wild, wild, wild, wild, wild, wild, ii 1, wild, wild, wild, wild, wild, wild, wild, wild, wild, wild, wild, wild, wild, wild, wild, wild, wild, wild, wild, wild, wild, wild, wild, wild, wild, wild, wild, wild, wild, wild, wild, wild, wild, wild, wild, wild] [([ii k.a, ii k.b, ii k.c, ii k.d, ii k.e, ii k.f, ii k.g, ii k.h, ii k.i], some t_impl_Cone), (sl LI ++ sp, some t_impl_Spot)] (fun e_ tm mem => match e_ with | .normal => ownAll mem = true ∧ (True) ∧ NextK 0 (fun tm mem => tm = [wild, .pointer (some ⟨0, 0, none⟩), .slice none 0 0, ii k.D, .slice (some ⟨1, 0, none⟩) n e, .map (some M), ii i, wild, wild, .pointer (some ⟨2, 0, none⟩), wild, wild, wild, wild, wild, wild, wild, wild, wild, wild, wild, wild, wild, wild, wild, ii 1, wild, wild, wild, wild, wild, wild, wild, wild, wild, wild, wild, wild, wild, wild, wild, wild, wild, wild, wild, wild, wild, wild, wild, wild, wild, wild, wild, wild, wild, wild, wild, wild, wild, wild, wild, wild] ∧ mem = [([ii k.a, ii k.b, ii k.c, ii k.d, ii k.e, ii k.f, ii k.g, ii k.h, ii k.i], some t_impl_Cone), (sl LI ++ sp, some t_impl_Spot), ([ii (k.nxI (LI.getD i.toNat (0, 0, 0)) 1).1, ii (k.nxI (LI.getD i.toNat (0, 0, 0)) 1).2.1, ii (k.nxI (LI.getD i.toNat (0, 0, 0)) 1).2.2], some t_impl_Spot)]) tm mem | _ => False) := by
  
  conv => whnf
  all_goals (repeat' first | (refine br_in hi0 hi ?_; conv => whnf) | (refine force_eq (take_sp (ps := LI) (i := i.toNat) ?_ ?_) ?_; (focus (simp only [Nat.zero_add]; done)); (focus (have h5_ := row_sl h1; omega)); conv => whnf) | (refine (c_coord_unit hk 1).call ?_; conv => whnf) | (refine (c_coord_unit hk 1).quiet ?_; conv => whnf) | (refine (c_plus_own hk hb 1).call ?_; conv => whnf) | (refine (c_plus_own hk hb 1).quiet ?_; conv => whnf) | (refine (c_mod_own hk (nx_sm hk hb 1).1).call ?_; conv => whnf) | (refine (c_mod_own hk (nx_sm hk hb 1).1).quiet ?_; conv => whnf) | (refine (c_mod_own hk (nx_sm hk hb 1).2.1).call ?_; conv => whnf) | (refine (c_mod_own hk (nx_sm hk hb 1).2.1).quiet ?_; conv => whnf) | (refine (c_mod_own hk (nx_sm hk hb 1).2.2).call ?_; conv => whnf) | (refine (c_mod_own hk (nx_sm hk hb 1).2.2).quiet ?_; conv => whnf) | (refine ⟨rfl, trivial, next_forget [0, 1, 3] ⟨rfl, rfl⟩ (tmR_rfl rfl rfl) ⟨⟨⟨_, rfl, .plain rfl rfl (by first | exact Plain.of rfl | exact Row.all (by assumption))⟩⟩, ⟨⟨_, rfl, .plain rfl rfl (Row.all h1)⟩⟩, ⟨⟨_, rfl, .plain rfl rfl (by first | exact Plain.of rfl | exact Row.all (by assumption))⟩⟩, trivial⟩ rfl rfl⟩) | (refine StoreK.mk rfl ?_; conv => whnf) | exact join_same | exact (by assumption : (_ : Bool) = (_ : Bool)) | (refine br_true (by assumption) ?_; conv => whnf) | (refine br_false (by assumption) ?_; conv => whnf) | (refine br_not ?_; conv => whnf) | (refine br_code ?_; conv => whnf) | (with_reducible refine br_and ?_; conv => whnf) | (with_reducible refine br_or ?_; conv => whnf) | (refine br_eq2 ?_; conv => whnf) | (refine draw_auto (by decide +kernel) ?_; conv => whnf) | (refine draw_asg (by decide +kernel) ?_; conv => whnf) | (refine draw_st (by decide +kernel) ?_; conv => whnf) | (refine draw_call (by decide +kernel) ?_; conv => whnf) | (refine enter_same (loop_n 12 ?_); conv => whnf) | (refine next_same ?_; conv => whnf) | (refine mapK_row (by assumption) ?_; conv => whnf) | (refine mapK_plain (Plain.of rfl) ?_; conv => whnf) | (refine mapK_lit ?_; conv => whnf) | (refine br_split (fun _ => ?_) (fun _ => ?_) <;> conv => whnf) | exact (rfl : (_ : Value) = _) | (simp only [*]; exact (rfl : (_ : Value) = _)) | (simp [*]; done))

set_option maxHeartbeats 2000000 in
theorem bx_rb2 {k : Cn} {LI : List S3} {sp : List Value} {n e M : Nat} {i j : Int} {x : S3} (h1 : Row (sl LI) sp n e 3) (hk : k.Ok) (hi0 : 0 ≤ i) (hi : i < (n : Int)) (hb : k.Box (LI.getD i.toNat (0, 0, 0))) : evCut Tryz.prog tbl 0 5 bxRB [wild, .pointer (some ⟨0, 0, none⟩), .slice none 0 0, ii k.D, .slice (some ⟨1, 0, none⟩) n e, .map (some M), ii i, wild, wild, wild, wild, wild, wild, wild, wild, wild, wild, wild, wild, wild, wild, wild, wild, wild, wild, ii 2, wild, wild, wild, wild, wild, wild, wild, wild, wild, wild, wild, wild, wild, wild, wild, wild, wild, wild, wild, wild, wild, wild, wild, wild, wild, wild, wild, wild, wild, wild, wild, wild, wild, wild, wild, wild] [([ii k.a, ii k.b, ii k.c, ii k.d, ii k.e, ii k.f, ii k.g, ii k.h, ii k.i], some t_impl_Cone), (sl LI ++ sp, some t_impl_Spot)] (fun e_ tm mem => match e_ with | .normal => ownAll mem = true ∧ (True) ∧ NextK 0 (fun tm mem => tm = [wild, .pointer (some ⟨0, 0, none⟩), .slice none 0 0, ii k.D, .slice (some ⟨1, 0, none⟩) n e, .map (some M), ii i, wild, wild, .pointer (some ⟨2, 0, none⟩), wild, wild, wild, wild, wild, wild, wild, wild, wild, wild, wild, wild, wild, wild, wild, ii 2, wild, wild, wild, wild, wild, wild, wild, wild, wild, wild, wild, wild, wild, wild, wild, wild, wild, wild, wild, wild, wild, wild, wild, wild, wild, wild, wild, wild, wild, wild, wild, wild, wild, wild, wild, wild] ∧ mem = [([ii k.a, ii k.b, ii k.c, ii k.d, ii k.e, ii k.f, ii k.g, ii k.h, ii k.i], some t_impl_Cone), (sl LI ++ sp, some t_impl_Spot), ([ii (k.nxI (LI.getD i.toNat (0, 0, 0)) 2).1, ii (k.nxI (LI.getD i.toNat (0, 0, 0)) 2).2.1, ii (k.nxI (LI.getD i.toNat (0, 0, 0)) 2).2.2], some t_impl_Spot)]) tm mem | _ => False) := by
  
  conv => whnf
  all_goals (repeat' first | (refine br_in hi0 hi ?_; conv => whnf) | (refine force_eq (take_sp (ps := LI) (i := i.toNat) ?_ ?_) ?_; (focus (simp only [Nat.zero_add]; done)); (focus (have h5_ := row_sl h1; omega)); conv => whnf) | (refine (c_coord_unit hk 2).call ?_; conv => whnf) | (refine (c_coord_unit hk 2).quiet ?_; conv => whnf) | (refine (c_plus_own hk hb 2).call ?_; conv => whnf) | (refine (c_plus_own hk hb 2).quiet ?_; conv => whnf) | (refine (c_mod_own hk (nx_sm hk hb 2).1).call ?_; conv => whnf) | (refine (c_mod_own hk (nx_sm hk hb 2).1).quiet ?_; conv => whnf) | (refine (c_mod_own hk (nx_sm hk hb 2).2.1).call ?_; conv => whnf) | (refine (c_mod_own hk (nx_sm hk hb 2).2.1).quiet ?_; conv => whnf) | (refine (c_mod_own hk (nx_sm hk hb 2).2.2).call ?_; conv => whnf) | (refine (c_mod_own hk (nx_sm hk hb 2).2.2).quiet ?_; conv => whnf) | (refine ⟨rfl, trivial, next_forget [0, 1, 3] ⟨rfl, rfl⟩ (tmR_rfl rfl rfl) ⟨⟨⟨_, rfl, .plain rfl rfl (by first | exact Plain.of rfl | exact Row.all (by assumption))⟩⟩, ⟨⟨_, rfl, .plain rfl rfl (Row.all h1)⟩⟩, ⟨⟨_, rfl, .plain rfl rfl (by first | exact Plain.of rfl | exact Row.all (by assumption))⟩⟩, trivial⟩ rfl rfl⟩) | (refine StoreK.mk rfl ?_; conv => whnf) | exact join_same | exact (by assumption : (_ : Bool) = (_ : Bool)) | (refine br_true (by assumption) ?_; conv => whnf) | (refine br_false (by assumption) ?_; conv => whnf) | (refine br_not ?_; conv => whnf) | (refine br_code ?_; conv => whnf) | (with_reducible refine br_and ?_; conv => whnf) | (with_reducible refine br_or ?_; conv => whnf) | (refine br_eq2 ?_; conv => whnf) | (refine draw_auto (by decide +kernel) ?_; conv => whnf) | (refine draw_asg (by decide +kernel) ?_; conv => whnf) | (refine draw_st (by decide +kernel) ?_; conv => whnf) | (refine draw_call (by decide +kernel) ?_; conv => whnf) | (refine enter_same (loop_n 12 ?_); conv => whnf) | (refine next_same ?_; conv => whnf) | (refine mapK_row (by assumption) ?_; conv => whnf) | (refine mapK_plain (Plain.of rfl) ?_; conv => whnf) | (refine mapK_lit ?_; conv => whnf) | (refine br_split (fun _ => ?_) (fun _ => ?_) <;> conv => whnf) | exact (rfl : (_ : Value) = _) | (simp only [*]; exact (rfl : (_ : Value) = _)) | (simp [*]; done))

set_option maxHeartbeats 2000000 in
theorem bx_o16 {k : Cn} {LI : List S3} {sp : List Value} {n e M : Nat} {i j : Int} {x : S3}  : evOps Tryz.prog tbl bxO16 (bxO16.take 2) [wild, .pointer (some ⟨0, 0, none⟩), .slice none 0 0, ii k.D, .slice (some ⟨1, 0, none⟩) n e, .map (some M), ii i, wild, wild, .pointer (some ⟨2, 0, none⟩), wild, wild, wild, wild, wild, wild, wild, wild, wild, wild, wild, wild, wild, wild, wild, ii j, wild, wild, wild, wild, wild, wild, wild, wild, wild, wild, wild, wild, wild, wild, wild, wild, wild, wild, wild, wild, wild, wild, wild, wild, wild, wild, wild, wild, wild, wild, wild, wild, wild, wild, wild, wild] [([ii k.a, ii k.b, ii k.c, ii k.d, ii k.e, ii k.f, ii k.g, ii k.h, ii k.i], some t_impl_Cone), (sl LI ++ sp, some t_impl_Spot), ([ii x.1, ii x.2.1, ii x.2.2], some t_impl_Spot)] (fun tm mem => tm = [wild, .pointer (some ⟨0, 0, none⟩), .slice none 0 0, ii k.D, .slice (some ⟨1, 0, none⟩) n e, .map (some M), ii i, wild, wild, .pointer (some ⟨2, 0, none⟩), wild, wild, wild, wild, wild, wild, wild, wild, wild, wild, wild, wild, wild, wild, wild, ii j, wild, wild, wild, wild, wild, wild, wild, wild, wild, wild, wild, wild, wild, wild, wild, wild, wild, wild, wild, wild, wild, wild, wild, wild, .map (some M), v3 x.1 x.2.1 x.2.2, wild, wild, wild, wild, wild, wild, wild, wild, wild, wild] ∧ mem = [([ii k.a, ii k.b, ii k.c, ii k.d, ii k.e, ii k.f, ii k.g, ii k.h, ii k.i], some t_impl_Cone), (sl LI ++ sp, some t_impl_Spot), ([ii x.1, ii x.2.1, ii x.2.2], some t_impl_Spot)]) := by
  
  conv => whnf
  all_goals (repeat' first | (refine ⟨rfl, rfl⟩) | (refine StoreK.mk rfl ?_; conv => whnf) | exact join_same | exact (by assumption : (_ : Bool) = (_ : Bool)) | (refine br_true (by assumption) ?_; conv => whnf) | (refine br_false (by assumption) ?_; conv => whnf) | (refine br_not ?_; conv => whnf) | (refine br_code ?_; conv => whnf) | (with_reducible refine br_and ?_; conv => whnf) | (with_reducible refine br_or ?_; conv => whnf) | (refine br_eq2 ?_; conv => whnf) | (refine draw_auto (by decide +kernel) ?_; conv => whnf) | (refine draw_asg (by decide +kernel) ?_; conv => whnf) | (refine draw_st (by decide +kernel) ?_; conv => whnf) | (refine draw_call (by decide +kernel) ?_; conv => whnf) | (refine enter_same (loop_n 12 ?_); conv => whnf) | (refine next_same ?_; conv => whnf) | (refine mapK_row (by assumption) ?_; conv => whnf) | (refine mapK_plain (Plain.of rfl) ?_; conv => whnf) | (refine mapK_lit ?_; conv => whnf) | (refine br_split (fun _ => ?_) (fun _ => ?_) <;> conv => whnf) | exact (rfl : (_ : Value) = _) | (simp only [*]; exact (rfl : (_ : Value) = _)) | (simp [*]; done))

set_option maxHeartbeats 2000000 in
theorem bx_o17 {k : Cn} {LI : List S3} {sp : List Value} {n e M : Nat} {i j : Int} {x : S3}  : evOps Tryz.prog tbl bxO17 (bxO17.take 2) [wild, .pointer (some ⟨0, 0, none⟩), .slice none 0 0, ii k.D, .slice (some ⟨1, 0, none⟩) n e, .map (some M), ii i, wild, wild, .pointer (some ⟨2, 0, none⟩), wild, wild, wild, wild, wild, wild, wild, wild, wild, wild, wild, wild, wild, wild, wild, ii j, wild, wild, wild, wild, wild, wild, wild, wild, wild, wild, wild, wild, wild, wild, wild, wild, wild, wild, wild, wild, wild, wild, wild, wild, .map (some M), v3 x.1 x.2.1 x.2.2, wild, wild, wild, wild, wild, wild, wild, wild, wild, wild] [([ii k.a, ii k.b, ii k.c, ii k.d, ii k.e, ii k.f, ii k.g, ii k.h, ii k.i], some t_impl_Cone), (sl LI ++ sp, some t_impl_Spot), ([ii x.1, ii x.2.1, ii x.2.2], some t_impl_Spot)] (fun tm mem => tm = [wild, .pointer (some ⟨0, 0, none⟩), .slice none 0 0, ii k.D, .slice (some ⟨1, 0, none⟩) n e, .map (some M), ii i, wild, wild, .pointer (some ⟨2, 0, none⟩), wild, wild, wild, wild, wild, wild, wild, wild, wild, wild, wild, wild, wild, wild, wild, ii j, wild, wild, wild, wild, wild, wild, wild, wild, wild, wild, wild, wild, wild, wild, wild, wild, wild, wild, wild, wild, wild, wild, wild, wild, .map (some M), v3 x.1 x.2.1 x.2.2, wild, wild, .map (some M), v3 x.1 x.2.1 x.2.2, wild, wild, wild, wild, wild, wild] ∧ mem = [([ii k.a, ii k.b, ii k.c, ii k.d, ii k.e, ii k.f, ii k.g, ii k.h, ii k.i], some t_impl_Cone), (sl LI ++ sp, some t_impl_Spot), ([ii x.1, ii x.2.1, ii x.2.2], some t_impl_Spot)]) := by
  
  conv => whnf
  all_goals (repeat' first | (refine ⟨rfl, rfl⟩) | (refine StoreK.mk rfl ?_; conv => whnf) | exact join_same | exact (by assumption : (_ : Bool) = (_ : Bool)) | (refine br_true (by assumption) ?_; conv => whnf) | (refine br_false (by assumption) ?_; conv => whnf) | (refine br_not ?_; conv => whnf) | (refine br_code ?_; conv => whnf) | (with_reducible refine br_and ?_; conv => whnf) | (with_reducible refine br_or ?_; conv => whnf) | (refine br_eq2 ?_; conv => whnf) | (refine draw_auto (by decide +kernel) ?_; conv => whnf) | (refine draw_asg (by decide +kernel) ?_; conv => whnf) | (refine draw_st (by decide +kernel) ?_; conv => whnf) | (refine draw_call (by decide +kernel) ?_; conv => whnf) | (refine enter_same (loop_n 12 ?_); conv => whnf) | (refine next_same ?_; conv => whnf) | (refine mapK_row (by assumption) ?_; conv => whnf) | (refine mapK_plain (Plain.of rfl) ?_; conv => whnf) | (refine mapK_lit ?_; conv => whnf) | (refine br_split (fun _ => ?_) (fun _ => ?_) <;> conv => whnf) | exact (rfl : (_ : Value) = _) | (simp only [*]; exact (rfl : (_ : Value) = _)) | (simp [*]; done))

set_option maxHeartbeats 2000000 in
theorem bx_r18 {k : Cn} {LI : List S3} {sp : List Value} {n e M : Nat} {i j : Int} {x : S3} (h1 : Row (sl LI) sp n e 3) (hn : n ≤ 64000000) : ev Tryz.prog tbl 0 bxR18 [wild, .pointer (some ⟨0, 0, none⟩), .slice none 0 0, ii k.D, .slice (some ⟨1, 0, none⟩) n e, .map (some M), ii i, wild, wild, .pointer (some ⟨2, 0, none⟩), wild, wild, wild, wild, wild, wild, wild, wild, wild, wild, wild, wild, wild, wild, wild, ii j, wild, wild, wild, wild, wild, wild, wild, wild, wild, wild, wild, wild, wild, wild, wild, wild, wild, wild, wild, wild, wild, wild, wild, wild, .map (some M), v3 x.1 x.2.1 x.2.2, wild, wild, .map (some M), v3 x.1 x.2.1 x.2.2, wild, wild, wild, wild, wild, wild] [([ii k.a, ii k.b, ii k.c, ii k.d, ii k.e, ii k.f, ii k.g, ii k.h, ii k.i], some t_impl_Cone), (sl LI ++ sp, some t_impl_Spot), ([ii x.1, ii x.2.1, ii x.2.2], some t_impl_Spot)] (fun e_ tm mem => match e_ with | .normal => ownAll mem = true ∧ NextK 0 (fun tm mem => ∃ e2 sp2, Row (sl (LI ++ [x])) sp2 (n + 1) e2 3 ∧ tm = [wild, .pointer (some ⟨0, 0, none⟩), .slice none 0 0, ii k.D, .slice (some ⟨1, 0, none⟩) (n + 1) e2, .map (some M), ii i, wild, wild, wild, wild, wild, wild, wild, wild, wild, wild, wild, wild, wild, wild, wild, wild, wild, wild, ii j, wild, wild, wild, wild, wild, wild, wild, wild, wild, wild, wild, wild, wild, wild, wild, wild, wild, wild, wild, wild, wild, wild, wild, wild, wild, wild, wild, wild, wild, wild, wild, wild, wild, wild, wild, wild] ∧ mem = [([ii k.a, ii k.b, ii k.c, ii k.d, ii k.e, ii k.f, ii k.g, ii k.h, ii k.i], some t_impl_Cone), (sl (LI ++ [x]) ++ sp2, some t_impl_Spot)]) tm mem | _ => False) := by
  
  conv => whnf
  all_goals (repeat' first | (show AppK _ _ _ 3 _ _ _ _ _; refine app_lit h1 rfl rfl rfl (Plain.of rfl) rfl rfl (by decide) (by have h_ := hn; show (_ + 1) * 24 ≤ _; omega) (by have h_ := hn; omega) (fun hle_ spa_ ra_ => ?_) (fun hle_ ca_ spa_ ra_ => ?_) <;> conv => whnf) | (have hr_ : Row (sl (LI ++ [x])) spa_ _ _ 3 := (by rw [sl_snoc]; exact ra_); exact ⟨rfl, next_forget [0, 1] ⟨_, _, hr_, rfl, rfl⟩ (tmR_rfl rfl rfl) ⟨⟨⟨_, rfl, .plain rfl rfl (by first | exact Plain.of rfl | exact Row.all (by assumption))⟩⟩, ⟨⟨_, rfl, .plain (by rw [sl_snoc] <;> rfl) rfl (Row.all hr_)⟩⟩, trivial⟩ rfl rfl⟩) | (have hr_ : Row (sl (LI ++ [x])) spa_ _ _ 3 := (by rw [sl_snoc]; exact ra_); exact ⟨rfl, next_forget [0, _] ⟨_, _, hr_, rfl, rfl⟩ (tmR_rfl rfl rfl) ⟨⟨⟨_, rfl, .plain rfl rfl (by first | exact Plain.of rfl | exact Row.all (by assumption))⟩⟩, ⟨⟨_, rfl, .plain (by rw [sl_snoc] <;> rfl) rfl (Row.all hr_)⟩⟩, trivial⟩ rfl rfl⟩) | (refine StoreK.mk rfl ?_; conv => whnf) | exact join_same | exact (by assumption : (_ : Bool) = (_ : Bool)) | (refine br_true (by assumption) ?_; conv => whnf) | (refine br_false (by assumption) ?_; conv => whnf) | (refine br_not ?_; conv => whnf) | (refine br_code ?_; conv => whnf) | (with_reducible refine br_and ?_; conv => whnf) | (with_reducible refine br_or ?_; conv => whnf) | (refine br_eq2 ?_; conv => whnf) | (refine draw_auto (by decide +kernel) ?_; conv => whnf) | (refine draw_asg (by decide +kernel) ?_; conv => whnf) | (refine draw_st (by decide +kernel) ?_; conv => whnf) | (refine draw_call (by decide +kernel) ?_; conv => whnf) | (refine enter_same (loop_n 12 ?_); conv => whnf) | (refine next_same ?_; conv => whnf) | (refine mapK_row (by assumption) ?_; conv => whnf) | (refine mapK_plain (Plain.of rfl) ?_; conv => whnf) | (refine mapK_lit ?_; conv => whnf) | (refine br_split (fun _ => ?_) (fun _ => ?_) <;> conv => whnf) | exact (rfl : (_ : Value) = _) | (simp only [*]; exact (rfl : (_ : Value) = _)) | (simp [*]; done))

set_option maxHeartbeats 2000000 in
theorem bx_skip {k : Cn} {LI : List S3} {sp : List Value} {n e M : Nat} {i j : Int} {x : S3} (h1 : Row (sl LI) sp n e 3) : ev Tryz.prog tbl 0 .skip [wild, .pointer (some ⟨0, 0, none⟩), .slice none 0 0, ii k.D, .slice (some ⟨1, 0, none⟩) n e, .map (some M), ii i, wild, wild, .pointer (some ⟨2, 0, none⟩), wild, wild, wild, wild, wild, wild, wild, wild, wild, wild, wild, wild, wild, wild, wild, ii j, wild, wild, wild, wild, wild, wild, wild, wild, wild, wild, wild, wild, wild, wild, wild, wild, wild, wild, wild, wild, wild, wild, wild, wild, .map (some M), v3 x.1 x.2.1 x.2.2, wild, wild, wild, wild, wild, wild, wild, wild, wild, wild] [([ii k.a, ii k.b, ii k.c, ii k.d, ii k.e, ii k.f, ii k.g, ii k.h, ii k.i], some t_impl_Cone), (sl LI ++ sp, some t_impl_Spot), ([ii x.1, ii x.2.1, ii x.2.2], some t_impl_Spot)] (fun e_ tm mem => match e_ with | .normal => ownAll mem = true ∧ (True) ∧ NextK 0 (fun tm mem => tm = [wild, .pointer (some ⟨0, 0, none⟩), .slice none 0 0, ii k.D, .slice (some ⟨1, 0, none⟩) n e, .map (some M), ii i, wild, wild, wild, wild, wild, wild, wild, wild, wild, wild, wild, wild, wild, wild, wild, wild, wild, wild, ii j, wild, wild, wild, wild, wild, wild, wild, wild, wild, wild, wild, wild, wild, wild, wild, wild, wild, wild, wild, wild, wild, wild, wild, wild, wild, wild, wild, wild, wild, wild, wild, wild, wild, wild, wild, wild] ∧ mem = [([ii k.a, ii k.b, ii k.c, ii k.d, ii k.e, ii k.f, ii k.g, ii k.h, ii k.i], some t_impl_Cone), (sl LI ++ sp, some t_impl_Spot)]) tm mem | _ => False) := by
  
  conv => whnf
  all_goals (repeat' first | (refine ⟨rfl, trivial, next_forget [0, 1] ⟨rfl, rfl⟩ (tmR_rfl rfl rfl) ⟨⟨⟨_, rfl, .plain rfl rfl (by first | exact Plain.of rfl | exact Row.all (by assumption))⟩⟩, ⟨⟨_, rfl, .plain rfl rfl (Row.all h1)⟩⟩, trivial⟩ rfl rfl⟩) | (refine StoreK.mk rfl ?_; conv => whnf) | exact join_same | exact (by assumption : (_ : Bool) = (_ : Bool)) | (refine br_true (by assumption) ?_; conv => whnf) | (refine br_false (by assumption) ?_; conv => whnf) | (refine br_not ?_; conv => whnf) | (refine br_code ?_; conv => whnf) | (with_reducible refine br_and ?_; conv => whnf) | (with_reducible refine br_or ?_; conv => whnf) | (refine br_eq2 ?_; conv => whnf) | (refine draw_auto (by decide +kernel) ?_; conv => whnf) | (refine draw_asg (by decide +kernel) ?_; conv => whnf) | (refine draw_st (by decide +kernel) ?_; conv => whnf) | (refine draw_call (by decide +kernel) ?_; conv => whnf) | (refine enter_same (loop_n 12 ?_); conv => whnf) | (refine next_same ?_; conv => whnf) | (refine mapK_row (by assumption) ?_; conv => whnf) | (refine mapK_plain (Plain.of rfl) ?_; conv => whnf) | (refine mapK_lit ?_; conv => whnf) | (refine br_split (fun _ => ?_) (fun _ => ?_) <;> conv => whnf) | exact (rfl : (_ : Value) = _) | (simp only [*]; exact (rfl : (_ : Value) = _)) | (simp [*]; done))

set_option maxHeartbeats 2000000 in
theorem bx_r19 {k : Cn} {LI : List S3} {sp : List Value} {n e M : Nat} {i j : Int} {x : S3} (h1 : Row (sl LI) sp n e 3) : ev Tryz.prog tbl 0 bxR19 [wild, .pointer (some ⟨0, 0, none⟩), .slice none 0 0, ii k.D, .slice (some ⟨1, 0, none⟩) n e, .map (some M), ii i, wild, wild, wild, wild, wild, wild, wild, wild, wild, wild, wild, wild, wild, wild, wild, wild, wild, wild, ii j, wild, wild, wild, wild, wild, wild, wild, wild, wild, wild, wild, wild, wild, wild, wild, wild, wild, wild, wild, wild, wild, wild, wild, wild, wild, wild, wild, wild, wild, wild, wild, wild, wild, wild, wild, wild] [([ii k.a, ii k.b, ii k.c, ii k.d, ii k.e, ii k.f, ii k.g, ii k.h, ii k.i], some t_impl_Cone), (sl LI ++ sp, some t_impl_Spot)] (fun e_ tm mem => match e_ with | .normal => ownAll mem = true ∧ (True) ∧ NextK 0 (fun tm mem => tm = [wild, .pointer (some ⟨0, 0, none⟩), .slice none 0 0, ii k.D, .slice (some ⟨1, 0, none⟩) n e, .map (some M), ii i, wild, wild, wild, wild, wild, wild, wild, wild, wild, wild, wild, wild, wild, wild, wild, wild, wild, wild, ii (w64 (j + 1)), wild, wild, wild, wild, wild, wild, wild, wild, wild, wild, wild, wild, wild, wild, wild, wild, wild, wild, wild, wild, wild, wild, wild, wild, wild, wild, wild, wild, wild, wild, wild, wild, wild, wild, wild, wild] ∧ mem = [([ii k.a, ii k.b, ii k.c, ii k.d, ii k.e, ii k.f, ii k.g, ii k.h, ii k.i], some t_impl_Cone), (sl LI ++ sp, some t_impl_Spot)]) tm mem | _ => False) := by
  
  conv => whnf
  all_goals (repeat' first | (refine ⟨rfl, trivial, next_forget [0, 1] ⟨rfl, rfl⟩ (tmR_rfl rfl rfl) ⟨⟨⟨_, rfl, .plain rfl rfl (by first | exact Plain.of rfl | exact Row.all (by assumption))⟩⟩, ⟨⟨_, rfl, .plain rfl rfl (Row.all h1)⟩⟩, trivial⟩ rfl rfl⟩) | (refine StoreK.mk rfl ?_; conv => whnf) | exact join_same | exact (by assumption : (_ : Bool) = (_ : Bool)) | (refine br_true (by assumption) ?_; conv => whnf) | (refine br_false (by assumption) ?_; conv => whnf) | (refine br_not ?_; conv => whnf) | (refine br_code ?_; conv => whnf) | (with_reducible refine br_and ?_; conv => whnf) | (with_reducible refine br_or ?_; conv => whnf) | (refine br_eq2 ?_; conv => whnf) | (refine draw_auto (by decide +kernel) ?_; conv => whnf) | (refine draw_asg (by decide +kernel) ?_; conv => whnf) | (refine draw_st (by decide +kernel) ?_; conv => whnf) | (refine draw_call (by decide +kernel) ?_; conv => whnf) | (refine enter_same (loop_n 12 ?_); conv => whnf) | (refine next_same ?_; conv => whnf) | (refine mapK_row (by assumption) ?_; conv => whnf) | (refine mapK_plain (Plain.of rfl) ?_; conv => whnf) | (refine mapK_lit ?_; conv => whnf) | (refine br_split (fun _ => ?_) (fun _ => ?_) <;> conv => whnf) | exact (rfl : (_ : Value) = _) | (simp only [*]; exact (rfl : (_ : Value) = _)) | (simp [*]; done))

set_option maxHeartbeats 2000000 in
theorem bx_r4 {k : Cn} {LI : List S3} {sp : List Value} {n e M : Nat} {i j : Int} {x : S3} (h1 : Row (sl LI) sp n e 3) : ev Tryz.prog tbl 0 bxR4 [wild, .pointer (some ⟨0, 0, none⟩), .slice none 0 0, ii k.D, .slice (some ⟨1, 0, none⟩) n e, .map (some M), ii i, wild, wild, wild, wild, wild, wild, wild, wild, wild, wild, wild, wild, wild, wild, wild, wild, wild, wild, wild, wild, wild, wild, wild, wild, wild, wild, wild, wild, wild, wild, wild, wild, wild, wild, wild, wild, wild, wild, wild, wild, wild, wild, wild, wild, wild, wild, wild, wild, wild, wild, wild, wild, wild, wild, wild] [([ii k.a, ii k.b, ii k.c, ii k.d, ii k.e, ii k.f, ii k.g, ii k.h, ii k.i], some t_impl_Cone), (sl LI ++ sp, some t_impl_Spot)] (fun e_ tm mem => match e_ with | .normal => ownAll mem = true ∧ (True) ∧ NextK 0 (fun tm mem => tm = [wild, .pointer (some ⟨0, 0, none⟩), .slice none 0 0, ii k.D, .slice (some ⟨1, 0, none⟩) n e, .map (some M), ii (w64 (i + 1)), wild, wild, wild, wild, wild, wild, wild, wild, wild, wild, wild, wild, wild, wild, wild, wild, wild, wild, wild, wild, wild, wild, wild, wild, wild, wild, wild, wild, wild, wild, wild, wild, wild, wild, wild, wild, wild, wild, wild, wild, wild, wild, wild, wild, wild, wild, wild, wild, wild, wild, wild, wild, wild, wild, wild] ∧ mem = [([ii k.a, ii k.b, ii k.c, ii k.d, ii k.e, ii k.f, ii k.g, ii k.h, ii k.i], some t_impl_Cone), (sl LI ++ sp, some t_impl_Spot)]) tm mem | _ => False) := by
  
  conv => whnf
  all_goals (repeat' first | (refine ⟨rfl, trivial, next_forget [0, 1] ⟨rfl, rfl⟩ (tmR_rfl rfl rfl) ⟨⟨⟨_, rfl, .plain rfl rfl (by first | exact Plain.of rfl | exact Row.all (by assumption))⟩⟩, ⟨⟨_, rfl, .plain rfl rfl (Row.all h1)⟩⟩, trivial⟩ rfl rfl⟩) | (refine StoreK.mk rfl ?_; conv => whnf) | exact join_same | exact (by assumption : (_ : Bool) = (_ : Bool)) | (refine br_true (by assumption) ?_; conv => whnf) | (refine br_false (by assumption) ?_; conv => whnf) | (refine br_not ?_; conv => whnf) | (refine br_code ?_; conv => whnf) | (with_reducible refine br_and ?_; conv => whnf) | (with_reducible refine br_or ?_; conv => whnf) | (refine br_eq2 ?_; conv => whnf) | (refine draw_auto (by decide +kernel) ?_; conv => whnf) | (refine draw_asg (by decide +kernel) ?_; conv => whnf) | (refine draw_st (by decide +kernel) ?_; conv => whnf) | (refine draw_call (by decide +kernel) ?_; conv => whnf) | (refine enter_same (loop_n 12 ?_); conv => whnf) | (refine next_same ?_; conv => whnf) | (refine mapK_row (by assumption) ?_; conv => whnf) | (refine mapK_plain (Plain.of rfl) ?_; conv => whnf) | (refine mapK_lit ?_; conv => whnf) | (refine br_split (fun _ => ?_) (fun _ => ?_) <;> conv => whnf) | exact (rfl : (_ : Value) = _) | (simp only [*]; exact (rfl : (_ : Value) = _)) | (simp [*]; done))

set_option maxHeartbeats 2000000 in
theorem bx_x2 {k : Cn} {LI : List S3} {sp : List Value} {n e M : Nat} {i j : Int} {x : S3} (h1 : Row (sl LI) sp n e 3) : ev Tryz.prog tbl 0 bxX2 [wild, .pointer (some ⟨0, 0, none⟩), .slice none 0 0, ii k.D, .slice (some ⟨1, 0, none⟩) n e, .map (some M), wild, wild, wild, wild, wild, wild, wild, wild, wild, wild, wild, wild, wild, wild, wild, wild, wild, wild, wild, wild, wild, wild, wild, wild, wild, wild, wild, wild, wild, wild, wild, wild, wild, wild, wild, wild, wild, wild, wild, wild, wild, wild, wild, wild, wild, wild, wild, wild, wild, wild, wild, wild, wild, wild, wild, wild] [([ii k.a, ii k.b, ii k.c, ii k.d, ii k.e, ii k.f, ii k.g, ii k.h, ii k.i], some t_impl_Cone), (sl LI ++ sp, some t_impl_Spot)] (fun e_ tm mem => match e_ with | .normal => ownAll mem = true ∧ (True) ∧ NextK 0 (fun tm mem => tm = [wild, .pointer (some ⟨0, 0, none⟩), .slice none 0 0, ii k.D, .slice (some ⟨1, 0, none⟩) n e, .map (some M), ii 0, wild, wild, wild, wild, wild, wild, wild, wild, wild, wild, wild, wild, wild, wild, wild, wild, wild, wild, wild, wild, wild, wild, wild, wild, wild, wild, wild, wild, wild, wild, wild, wild, wild, wild, wild, wild, wild, wild, wild, wild, wild, wild, wild, wild, wild, wild, wild, wild, wild, wild, wild, wild, wild, wild, wild] ∧ mem = [([ii k.a, ii k.b, ii k.c, ii k.d, ii k.e, ii k.f, ii k.g, ii k.h, ii k.i], some t_impl_Cone), (sl LI ++ sp, some t_impl_Spot)]) tm mem | _ => False) := by
  
  conv => whnf
  all_goals (repeat' first | (refine ⟨rfl, trivial, next_forget [0, 1] ⟨rfl, rfl⟩ (tmR_rfl rfl rfl) ⟨⟨⟨_, rfl, .plain rfl rfl (by first | exact Plain.of rfl | exact Row.all (by assumption))⟩⟩, ⟨⟨_, rfl, .plain rfl rfl (Row.all h1)⟩⟩, trivial⟩ rfl rfl⟩) | (refine StoreK.mk rfl ?_; conv => whnf) | exact join_same | exact (by assumption : (_ : Bool) = (_ : Bool)) | (refine br_true (by assumption) ?_; conv => whnf) | (refine br_false (by assumption) ?_; conv => whnf) | (refine br_not ?_; conv => whnf) | (refine br_code ?_; conv => whnf) | (with_reducible refine br_and ?_; conv => whnf) | (with_reducible refine br_or ?_; conv => whnf) | (refine br_eq2 ?_; conv => whnf) | (refine draw_auto (by decide +kernel) ?_; conv => whnf) | (refine draw_asg (by decide +kernel) ?_; conv => whnf) | (refine draw_st (by decide +kernel) ?_; conv => whnf) | (refine draw_call (by decide +kernel) ?_; conv => whnf) | (refine enter_same (loop_n 12 ?_); conv => whnf) | (refine next_same ?_; conv => whnf) | (refine mapK_row (by assumption) ?_; conv => whnf) | (refine mapK_plain (Plain.of rfl) ?_; conv => whnf) | (refine mapK_lit ?_; conv => whnf) | (refine br_split (fun _ => ?_) (fun _ => ?_) <;> conv => whnf) | exact (rfl : (_ : Value) = _) | (simp only [*]; exact (rfl : (_ : Value) = _)) | (simp [*]; done))

abbrev bxTO (k : Cn) (n e M : Nat) (i : Int) : List Value := [wild, .pointer (some ⟨0, 0, none⟩), .slice none 0 0, ii k.D, .slice (some ⟨1, 0, none⟩) n e, .map (some M), ii i, wild, wild, wild, wild, wild, wild, wild, wild, wild, wild, wild, wild, wild, wild, wild, wild, wild, wild, wild, wild, wild, wild, wild, wild, wild, wild, wild, wild, wild, wild, wild, wild, wild, wild, wild, wild, wild, wild, wild, wild, wild, wild, wild, wild, wild, wild, wild, wild, wild, wild, wild, wild, wild, wild, wild]
abbrev bxTI (k : Cn) (n e M : Nat) (i j : Int) : List Value := [wild, .pointer (some ⟨0, 0, none⟩), .slice none 0 0, ii k.D, .slice (some ⟨1, 0, none⟩) n e, .map (some M), ii i, wild, wild, wild, wild, wild, wild, wild, wild, wild, wild, wild, wild, wild, wild, wild, wild, wild, wild, ii j, wild, wild, wild, wild, wild, wild, wild, wild, wild, wild, wild, wild, wild, wild, wild, wild, wild, wild, wild, wild, wild, wild, wild, wild, wild, wild, wild, wild, wild, wild, wild, wild, wild, wild, wild, wild]
abbrev bxTN (k : Cn) (n e M : Nat) (i j : Int) : List Value := [wild, .pointer (some ⟨0, 0, none⟩), .slice none 0 0, ii k.D, .slice (some ⟨1, 0, none⟩) n e, .map (some M), ii i, wild, wild, .pointer (some ⟨2, 0, none⟩), wild, wild, wild, wild, wild, wild, wild, wild, wild, wild, wild, wild, wild, wild, wild, ii j, wild, wild, wild, wild, wild, wild, wild, wild, wild, wild, wild, wild, wild, wild, wild, wild, wild, wild, wild, wild, wild, wild, wild, wild, wild, wild, wild, wild, wild, wild, wild, wild, wild, wild, wild, wild]
abbrev bxTY (k : Cn) (n e M : Nat) (i j : Int) (x : S3) : List Value := [wild, .pointer (some ⟨0, 0, none⟩), .slice none 0 0, ii k.D, .slice (some ⟨1, 0, none⟩) n e, .map (some M), ii i, wild, wild, .pointer (some ⟨2, 0, none⟩), wild, wild, wild, wild, wild, wild, wild, wild, wild, wild, wild, wild, wild, wild, wild, ii j, wild, wild, wild, wild, wild, wild, wild, wild, wild, wild, wild, wild, wild, wild, wild, wild, wild, wild, wild, wild, wild, wild, wild, wild, .map (some M), v3 x.1 x.2.1 x.2.2, wild, wild, wild, wild, wild, wild, wild, wild, wild, wild]
abbrev bxTZ (k : Cn) (n e M : Nat) (i j : Int) (x : S3) : List Value := [wild, .pointer (some ⟨0, 0, none⟩), .slice none 0 0, ii k.D, .slice (some ⟨1, 0, none⟩) n e, .map (some M), ii i, wild, wild, .pointer (some ⟨2, 0, none⟩), wild, wild, wild, wild, wild, wild, wild, wild, wild, wild, wild, wild, wild, wild, wild, ii j, wild, wild, wild, wild, wild, wild, wild, wild, wild, wild, wild, wild, wild, wild, wild, wild, wild, wild, wild, wild, wild, wild, wild, wild, .map (some M), v3 x.1 x.2.1 x.2.2, wild, wild, .map (some M), v3 x.1 x.2.1 x.2.2, wild, wild, wild, wild, wild, wild]
abbrev bxM (k : Cn) (LI : List S3) (sp : List Value) : Mem := [([ii k.a, ii k.b, ii k.c, ii k.d, ii k.e, ii k.f, ii k.g, ii k.h, ii k.i], some t_impl_Cone), (sl LI ++ sp, some t_impl_Spot)]
abbrev bxMX (k : Cn) (LI : List S3) (sp : List Value) (x : S3) : Mem := [([ii k.a, ii k.b, ii k.c, ii k.d, ii k.e, ii k.f, ii k.g, ii k.h, ii k.i], some t_impl_Cone), (sl LI ++ sp, some t_impl_Spot), ([ii x.1, ii x.2.1, ii x.2.2], some t_impl_Spot)]

end Go.Proofs.YtndmkibdcfpddaaGreat
end

section
/-
  Contracts of functions of the program (printed by a program of this work; Lean checks each).
  Conditions: as each contract states.
-/
namespace Go.Proofs.YtndmkibdcfpddaaGreat
open Go.Ev Go.RowKit
set_option maxRecDepth 100000
set_option linter.unusedVariables false
set_option linter.unusedSimpArgs false

theorem uMap : Tryz.prog.underlying 88 = some (.map 25 4) := by kernel_rfl
theorem uSp : Tryz.prog.underlying 25 = some (.array 3 2) := by kernel_rfl
theorem uIn : Tryz.prog.underlying 2 = some (.int .i64) := by kernel_rfl
theorem uBo : Tryz.prog.underlying 4 = some .bool := by kernel_rfl
theorem cSp : Tryz.prog.cellsOf 25 = 3 := by kernel_rfl
theorem cIn : Tryz.prog.cellsOf 2 = 1 := by kernel_rfl
theorem kSp : Tryz.prog.keyType 25 = true := by kernel_rfl
theorem laidE : laidOutB Tryz.prog = true := by kernel_rfl
theorem lawSp : Go.Maps.Keyed Tryz.prog 25 := Go.Maps.Keyed.of_law (deep_law_laid laidE (m := 2) (by omega) (of_decide_eq_true (by kernel_rfl)) (by kernel_rfl) (by kernel_rfl))
theorem sizeT : ∃ m, Tryz.prog.types.size = m + 1 := by
  have h : (25 : Nat) < Tryz.prog.types.size := of_decide_eq_true (by kernel_rfl)
  exact ⟨Tryz.prog.types.size - 1, by omega⟩
abbrev spV (x : S3) : Value := .agg #[.int .i64 x.1, .int .i64 x.2.1, .int .i64 x.2.2]
structure Wf3 (x : S3) : Prop where
  a : (Lit.int .i64 x.1).wf = true
  b : (Lit.int .i64 x.2.1).wf = true
  c : (Lit.int .i64 x.2.2).wf = true
theorem keyInt (d : Nat) (x : Int) (h : (Lit.int .i64 x).wf = true) : Tryz.prog.keyLits (d + 1) 2 [.int .i64 x] = some [.int .i64 x] := by
  unfold Program.keyLits
  rw [uIn]
  simp [h]
theorem key3 {x : S3} (h : Wf3 x) : ∃ l, keyOf Tryz.prog 25 (spV x) = some l := by
  obtain ⟨m, hm⟩ := sizeT
  have e : Tryz.prog.keyLits (Tryz.prog.types.size + 1) 25 (spV x).cells.toList = some [.int .i64 x.1, .int .i64 x.2.1, .int .i64 x.2.2] := by
    rw [hm]
    unfold Program.keyLits
    rw [uSp]
    simp only [cSp, cIn, Value.cells]
    rw [if_pos (by simp)]
    have hr : List.range 3 = [0, 1, 2] := rfl
    rw [hr]
    simp only [List.mapM_cons, List.mapM_nil]
    rw [show List.take 1 (List.drop (0 * 1) (#[Value.int .i64 x.1, .int .i64 x.2.1, .int .i64 x.2.2] : Array Value).toList) = [.int .i64 x.1] from rfl,
      show List.take 1 (List.drop (1 * 1) (#[Value.int .i64 x.1, .int .i64 x.2.1, .int .i64 x.2.2] : Array Value).toList) = [.int .i64 x.2.1] from rfl,
      show List.take 1 (List.drop (2 * 1) (#[Value.int .i64 x.1, .int .i64 x.2.1, .int .i64 x.2.2] : Array Value).toList) = [.int .i64 x.2.2] from rfl,
      keyInt _ _ h.a, keyInt _ _ h.b, keyInt _ _ h.c]
    rfl
  refine ⟨.string (keyBytes [.int .i64 x.1, .int .i64 x.2.1, .int .i64 x.2.2]), ?_⟩
  unfold keyOf
  rw [uSp]
  simp only
  rw [if_pos (by simp [kSp, Value.formed, uSp, cSp]), e]
  rfl
theorem spV_inj {x y : S3} (h : spV x = spV y) : x = y := by
  simp only [spV, Value.agg.injEq] at h
  have := congrArg Array.toList h
  simp at this
  exact Prod.ext this.1 (Prod.ext this.2.1 this.2.2)
def SeenAt (W : World) (M : Nat) (S : List S3) : Prop :=
  ∃ (D : DataW Nat) (n : Nat), W.ownsMap Tryz.prog 25 (plainElem Tryz.prog 4) M n D ∧ n ≤ S.length ∧ Go.Maps.IsMap D ∧ ∀ x l, keyOf Tryz.prog 25 (spV x) = some l → D.atKey l (.lit (.bool false)) = .lit (.bool (decide (x ∈ S)))
theorem SeenAt.obj {W : World} {M : Nat} {S : List S3} (h : SeenAt W M S) : ∃ es cl, W.heap[M]? = some (.map es cl) := by
  obtain ⟨D, n, ⟨es, cl, hb, _⟩, _⟩ := h
  exact ⟨es, cl, hb⟩
theorem SeenAt.keep {W W' : World} {M : Nat} {S : List S3} (h : SeenAt W M S) (e : W'.heap[M]? = W.heap[M]?) : SeenAt W' M S := by
  obtain ⟨D, n, ⟨es, cl, hb, r⟩, r2⟩ := h
  exact ⟨D, n, ⟨es, cl, e.trans hb, r⟩, r2⟩
theorem seen_made (w : World) : SeenAt (w.alloc (.map #[] 0)) w.heap.size [] := by
  refine ⟨.map [], 0, World.ownsMap_made w _ _ _, Nat.le_refl _, Go.Maps.isMap_empty, fun x l _ => ?_⟩
  simp [DataW.atKey]
theorem elem_bool {v : Value} {b : Bool} {ps : List MemPlace} (h : plainElem (H := Nat) Tryz.prog 4 v = some (.lit (.bool b), ps)) : v = .bool b := by
  unfold plainElem at h
  rw [uBo] at h
  cases v <;> simp at h
  rw [h.1]
theorem SeenAt.look {W : World} {M : Nat} {S : List S3} (h : SeenAt W M S) {x : S3} (hx : Wf3 x) : (Instr.lookup 88 (.map (some M)) (spV x) false).run Tryz.prog W = .ok (.bool (decide (x ∈ S))) W := by
  obtain ⟨D, n, ho, _, _, ha⟩ := h
  obtain ⟨l, hl⟩ := key3 hx
  have hz : (zeroValue 4).run Tryz.prog W = .ok (.bool false) W := by kernel_rfl
  obtain ⟨v, ps, hrun, hv⟩ := ho.lookup lawSp uMap hz (plainElem_bool uBo false) hl
  rw [ha x l hl] at hv
  rw [hrun, elem_bool hv]
theorem SeenAt.put {W : World} {M : Nat} {S : List S3} (h : SeenAt W M S) {x : S3} (hx : Wf3 x) (hS : S.length < maxLen) : ∃ W', (Instr.mapUpdate 88 (.map (some M)) (spV x) (.bool true)).run Tryz.prog W = .ok () W' ∧ SeenAt W' M (x :: S) ∧ W.grownBy W' (some M) := by
  obtain ⟨D, n, ho, hn, hi, ha⟩ := h
  obtain ⟨l, hl⟩ := key3 hx
  obtain ⟨W', hrun, ho', hg⟩ := ho.update lawSp uMap (by omega) hl (plainElem_bool uBo true)
  refine ⟨W', hrun, ⟨_, _, ho', by simp; omega, hi.put _ _, fun y l' hl' => ?_⟩, hg⟩
  by_cases hy : y = x
  · subst hy
    rw [hl] at hl'; cases hl'
    rw [Go.Maps.atKey_put_same hi (lawSp.key hl)]
    simp
  · rw [Go.Maps.atKey_put_other (fun e => hy (by
      subst e
      exact spV_inj (lawSp.inj hl' hl))), ha y l' hl']
    simp [hy]
theorem SeenAt.same {W : World} {M : Nat} {S S' : List S3} (h : SeenAt W M S) (hl : S.length ≤ S'.length) (hS : ∀ x, x ∈ S' ↔ x ∈ S) : SeenAt W M S' := by
  obtain ⟨D, n, ho, hn, hi, ha⟩ := h
  refine ⟨D, n, ho, by omega, hi, fun x l hx => ?_⟩
  rw [ha x l hx]
  simp only [hS x]
theorem bx_d16 : ∃ o1 o2, bxO16.drop 2 = [o1, o2] ∧ o1.op = .lookup 88 (.tmp 50) (.tmp 51) false ∧ o1.dst = some 52 ∧ o1.guard = none ∧ o2.op = .unOp .not 4 (.tmp 52) ∧ o2.dst = some 53 ∧ o2.guard = none := ⟨_, _, rfl, rfl, rfl, rfl, rfl, rfl, rfl⟩
theorem bx_d17 : ∃ o1, bxO17.drop 2 = [o1] ∧ o1.op = .mapUpdate 88 (.tmp 54) (.tmp 55) (.const (.bool true)) ∧ o1.dst = none ∧ o1.guard = none := ⟨_, rfl, rfl, rfl, rfl⟩
theorem list_look {ops : Array Oper} {Q : Exit → Act → World → Prop} {o1 o2 : Oper} {a : Act} {w : World} {M : Nat} {x : Value} {b : Bool}
    (h1 : o1.op = .lookup 88 (.tmp 50) (.tmp 51) false) (h2 : o1.dst = some 52) (h3 : o1.guard = none) (h4 : o2.op = .unOp .not 4 (.tmp 52)) (h5 : o2.dst = some 53) (h6 : o2.guard = none)
    (hd : 52 < a.tmps.size) (hm : a.eval (.tmp 50) = .map (some M)) (hx : a.eval (.tmp 51) = x) (hrun : (Instr.lookup 88 (.map (some M)) x false).run Tryz.prog w = .ok (.bool b) w)
    (hq : Q .normal ((a.put (some 52) (.bool b)).put (some 53) (.bool (!b))) w) : wpList Tryz.prog ops Q [o1, o2] a w := by
  have hw : ∀ (o : Oper) y, o.guard = none → Region.wanted o y = true := fun o y h => by simp [Region.wanted, h]
  unfold wpList
  rw [if_pos (hw o1 _ h3)]
  refine .inl ?_
  unfold Oper.wp
  have e1 : (execOp a.eval o1).run Tryz.prog w = .ok (.value (.bool b)) w := by
    unfold execOp
    rw [h1]
    simp only [hm, hx, Sem.run_bind, hrun, Result.andThen_ok, Sem.run_pure]
  rw [e1]
  show wpList Tryz.prog ops Q [o2] (a.put o1.dst (.bool b)) w
  rw [h2]
  unfold wpList
  rw [if_pos (hw o2 _ h6)]
  refine .inl ?_
  unfold Oper.wp
  have ev : (a.put (some 52) (.bool b)).eval (.tmp 52) = .bool b := by
    simp [Act.eval, Act.put, Array.getD_eq_getD_getElem?, Array.getElem?_setIfInBounds, hd]
  have e2 : (execOp (a.put (some 52) (.bool b)).eval o2).run Tryz.prog w = .ok (.value (.bool (!b))) w := by
    unfold execOp
    rw [h4]
    simp only [ev]
    rfl
  rw [e2]
  show wpList Tryz.prog ops Q [] ((a.put (some 52) (.bool b)).put o2.dst (.bool (!b))) w
  rw [h5]
  exact hq
theorem list_upd {ops : Array Oper} {Q : Exit → Act → World → Prop} {o1 : Oper} {a : Act} {w w' : World} {M : Nat} {x : Value}
    (h1 : o1.op = .mapUpdate 88 (.tmp 54) (.tmp 55) (.const (.bool true))) (h2 : o1.dst = none) (h3 : o1.guard = none)
    (hm : a.eval (.tmp 54) = .map (some M)) (hx : a.eval (.tmp 55) = x) (hrun : (Instr.mapUpdate 88 (.map (some M)) x (.bool true)).run Tryz.prog w = .ok () w')
    (hq : Q .normal a w') : wpList Tryz.prog ops Q [o1] a w := by
  have hw : ∀ (o : Oper) y, o.guard = none → Region.wanted o y = true := fun o y h => by simp [Region.wanted, h]
  unfold wpList
  rw [if_pos (hw o1 _ h3)]
  refine .inl ?_
  unfold Oper.wp
  have ec : a.eval (.const (.bool true)) = .bool true := rfl
  have e1 : (execOp a.eval o1).run Tryz.prog w = .ok .skip w' := by
    unfold execOp
    rw [h1]
    simp only [hm, hx, ec, Sem.run_bind, hrun, Result.andThen_ok, Sem.run_pure]
  rw [e1]
  show wpList Tryz.prog ops Q [] (a.put o1.dst undef) w'
  rw [h2]
  exact hq

abbrev insL (L : List S3) : List S3 := L.foldl insS []
theorem insL_snoc (L : List S3) (y : S3) : insL (L ++ [y]) = insS (insL L) y := by simp [insL, List.foldl_append]
theorem insL_mem (L : List S3) (x : S3) : x ∈ insL L ↔ x ∈ L := by
  have := (fold_ins L [] List.Pairwise.nil).2 x
  simpa using this
theorem nx_get {tm tm' : List Value} {mem mem' : Mem} {w0 : Base} {σ : List Nat} {a : Act} {w : World} (h : NextK 0 (fun t m => t = tm' ∧ m = mem') tm mem) (ha : TmAt σ tm a) (hm : MemAt w0 σ mem w) : ∃ ρ, TmAt ρ tm' a ∧ MemAt w0 ρ mem' w := by
  rcases h.or with ⟨rfl, rfl⟩ | ⟨κ, tm2, mem2, hf, rfl, rfl⟩
  · exact ⟨σ, ha, hm⟩
  · obtain ⟨σ2, ha2, hm2⟩ := hf.sound (ρ0 := []) rfl ha hm
    exact ⟨_, ha2, hm2⟩
theorem wf64 {x : Int} (h : 0 ≤ x ∧ x < 400) : (Lit.int .i64 x).wf = true := WalkArith.wf_i64 (by omega)
theorem wf_box {k : Cn} (hk : k.Ok) {x : S3} (h : k.Box x) : Wf3 x := by
  have hd := Cn.D_le hk
  obtain ⟨h1, h2, h3⟩ := h
  exact ⟨wf64 (by omega), wf64 (by omega), wf64 (by omega)⟩
structure BxAt (w0 : Base) (k : Cn) (M : Nat) (L : List S3) (tmf : Nat → Nat → List Value) (a : Act) (w : World) : Prop where
  ex : ∃ ρ n e sp, Row (sl (L.map k.own)) sp n e 3 ∧ TmAt ρ (tmf n e) a ∧ MemAt w0 ρ (bxM k (L.map k.own) sp) w ∧ SeenAt w M (L.map k.own)
  lo : w0.w.heap.size ≤ M
section
variable {w0 : Base} {k : Cn} {M : Nat} {L : List S3} {i : Int}
theorem bx_round {Q : Exit → Act → World → Prop} {a : Act} {w : World} (J : Nat) (hJ : J < 3) (hrb : ∀ {LI : List S3} {sp : List Value} {n e : Nat}, Row (sl LI) sp n e 3 → k.Ok → 0 ≤ i → i < (n : Int) → k.Box (LI.getD i.toNat (0, 0, 0)) →
      evCut Tryz.prog tbl 0 5 bxRB (bxTI k n e M i (J : Int)) (bxM k LI sp) (fun e_ tm mem => match e_ with
        | .normal => ownAll mem = true ∧ True ∧ NextK 0 (fun t m => t = bxTN k n e M i (J : Int) ∧ m = bxMX k LI sp (k.nxI (LI.getD i.toNat (0, 0, 0)) J)) tm mem
        | _ => False))
    (hI : BxI k i (J : Int) L (insL L)) (hs : BxAt w0 k M L (fun n e => bxTI k n e M i (J : Int)) a w)
    (hQ : ∀ a' w' L', BxI k i (w64 ((J : Int) + 1)) L' (insL L') → BxAt w0 k M L' (fun n e => bxTI k n e M i (J : Int)) a' w' → Q .normal a' w') : bxRB.wp Tryz.prog Q a w := by
  obtain ⟨ρ, n, e, sp, hr, ha, hm, hsn⟩ := hs.ex
  obtain ⟨es, cl, hM⟩ := hsn.obj
  have hln := row_sl hr
  rw [List.length_map] at hln
  have hlt : i.toNat < L.length := by have := hI.hi; have := hI.lo; omega
  have hgd : (L.map k.own).getD i.toNat (0, 0, 0) = k.own (L.getD i.toNat (0, 0, 0)) := getD_map hlt
  have hbx : k.Box ((L.map k.own).getD i.toNat (0, 0, 0)) := by rw [hgd]; exact getD_box hI.bl hlt
  have hx : k.nxI ((L.map k.own).getD i.toNat (0, 0, 0)) J = k.own (k.nxS (L.getD i.toNat (0, 0, 0)) J) := by rw [hgd, Cn.own_nx]
  obtain ⟨x, hxd⟩ : ∃ x, k.nxI ((L.map k.own).getD i.toNat (0, 0, 0)) J = x := ⟨_, rfl⟩
  have hxb : k.Box x := by rw [← hxd]; exact Cn.box_nx hI.ok _ _
  have hev := hrb hr hI.ok hI.lo (by have := hI.hi; omega) hbx
  rw [hxd] at hev hx
  refine fragCut good.tbl good.mix 5 bxRB hev rfl (fun e_ tm mem h => by cases e_ <;> first | exact h.1 | exact (h : False).elim) (ρ0 := []) (σ := ρ) rfl ha hm hM ?_ (fun e_ σ tm mem a' w' hne h => by cases e_ <;> first | exact absurd rfl hne | exact (h : False).elim)
  intro σ tm1 mem1 a1 w1 hk1 ha1 hm1 hM1
  obtain ⟨ρ1, ha1, hm1⟩ := nx_get hk1.2.2 ha1 hm1
  have hs1 : SeenAt w1 M (L.map k.own) := hsn.keep (hM1.trans hM.symm)
  rw [bx_Q]
  refine wp_seq (wp_region_list ?_)
  rw [List.toList_toArray, ← List.take_append_drop 2 bxO16]
  refine fragOps good.tbl (bxO16.take 2) (bxO16.drop 2) (bx_o16 (k := k) (LI := L.map k.own) (sp := sp) (n := n) (e := e) (M := M) (i := i) (j := (J : Int)) (x := x)) rfl (fun tm mem h => by rw [h.2]; rfl) ha1 hm1 hM1 (fun σ2 tm2 mem2 a2 w2 h2 ha2 hm2 hM2 => ?_)
  obtain ⟨rfl, rfl⟩ := h2
  have hs2 : SeenAt w2 M (L.map k.own) := hs1.keep (hM2.trans hM1.symm)
  obtain ⟨o1, o2, hO, q1, q2, q3, q4, q5, q6⟩ := bx_d16
  rw [hO]
  have hsz : a2.tmps.size = 62 := ha2.size
  refine list_look q1 q2 q3 q4 q5 q6 (by omega) (ha2.eval 50 rfl).1 (ha2.eval 51 rfl).1 (hs2.look (wf_box hI.ok hxb)) ?_
  have ha3 := (ha2.putWild (d := 52) rfl (.bool (decide (x ∈ L.map k.own)))).putWild (d := 53) rfl (.bool (!decide (x ∈ L.map k.own)))
  obtain ⟨a3, ha3e⟩ : ∃ a3, (a2.put (some 52) (.bool (decide (x ∈ L.map k.own)))).put (some 53) (.bool (!decide (x ∈ L.map k.own))) = a3 := ⟨_, rfl⟩
  rw [ha3e] at ha3
  have hc53 : a3.eval (.tmp 53) = .bool (!decide (x ∈ L.map k.own)) := by
    rw [← ha3e]
    simp [Act.eval, Act.put, Array.getD_eq_getD_getElem?, Array.getElem?_setIfInBounds, hsz]
  show (Code.cond (.tmp 53) bxCT .skip).wp Tryz.prog Q _ w2
  rw [ha3e]
  have hmem : x ∈ L.map k.own ↔ k.nxS (L.getD i.toNat (0, 0, 0)) J ∈ insL L := by
    rw [insL_mem, hx]
    constructor
    · intro h
      obtain ⟨z, hz, he⟩ := List.mem_map.1 h
      exact Cn.own_inj hI.ok he ▸ hz
    · exact fun h => List.mem_map.2 ⟨_, h, rfl⟩
  have hJ3 : (J : Int) < 3 := by omega
  have hJn : ((J : Int)).toNat = J := by omega
  by_cases hin : x ∈ L.map k.own
  · refine wp_cond_false (by rw [hc53, decide_eq_true hin]; rfl) ?_
    refine frag good.tbl good.mix .skip (bx_skip (k := k) (LI := L.map k.own) (sp := sp) (n := n) (e := e) (M := M) (i := i) (j := (J : Int)) (x := x) hr) rfl (fun e_ tm mem h => by cases e_ <;> first | exact h.1 | exact (h : False).elim) (ρ0 := []) rfl ha3 hm2 hM2 (fun e_ σ4 tm4 mem4 a4 w4 h4 ha4 hm4 hM4 => ?_)
    cases e_ with
    | normal =>
      obtain ⟨ρ4, ha4, hm4⟩ := nx_get h4.2.2 ha4 hm4
      exact hQ a4 w4 L (hI.old hJ3 (by rw [hJn]; exact hmem.1 hin)) ⟨⟨ρ4, n, e, sp, hr, ha4, hm4, hs2.keep (hM4.trans hM2.symm)⟩, hs.lo⟩
    | _ => exact (h4 : False).elim
  · refine wp_cond_true (by rw [hc53, decide_eq_false hin]; rfl) ?_
    rw [bx_CT]
    refine wp_seq (wp_region_list ?_)
    rw [List.toList_toArray, ← List.take_append_drop 2 bxO17]
    refine fragOps good.tbl (bxO17.take 2) (bxO17.drop 2) (bx_o17 (k := k) (LI := L.map k.own) (sp := sp) (n := n) (e := e) (M := M) (i := i) (j := (J : Int)) (x := x)) rfl (fun tm mem h => by rw [h.2]; rfl) ha3 hm2 hM2 (fun σ4 tm4 mem4 a4 w4 h4 ha4 hm4 hM4 => ?_)
    obtain ⟨rfl, rfl⟩ := h4
    have hs4 : SeenAt w4 M (L.map k.own) := hs2.keep (hM4.trans hM2.symm)
    obtain ⟨o3, hO3, p1, p2, p3⟩ := bx_d17
    rw [hO3]
    have hL64 := hI.len.1
    obtain ⟨w5, hrun, hs5, hg5⟩ := hs4.put (wf_box hI.ok hxb) (by rw [List.length_map]; unfold maxLen; omega)
    refine list_upd p1 p2 p3 (ha4.eval 54 rfl).1 (ha4.eval 55 rfl).1 hrun ?_
    have hm5 := hm4.grown hg5 (fun r er => by cases er; exact ⟨hs.lo, _, hM4, rfl⟩)
    obtain ⟨es5, cl5, hM5⟩ := hs5.obj
    refine frag good.tbl good.mix bxR18 (bx_r18 (k := k) (LI := L.map k.own) (sp := sp) (n := n) (e := e) (M := M) (i := i) (j := (J : Int)) (x := x) hr (by omega)) rfl (fun e_ tm mem h => by cases e_ <;> first | exact h.1 | exact (h : False).elim) (ρ0 := []) rfl ha4 hm5 hM5 (fun e_ σ6 tm6 mem6 a6 w6 h6 ha6 hm6 hM6 => ?_)
    cases e_ with
    | normal =>
      have hL' : (L.map k.own) ++ [x] = (L ++ [k.nxS (L.getD i.toNat (0, 0, 0)) J]).map k.own := by rw [List.map_append, hx]; rfl
      have hnew := hI.new hJ3 (by rw [hJn]; exact fun h => hin (hmem.2 h))
      rw [hJn] at hnew
      rw [← insL_snoc] at hnew
      have hs6 : SeenAt w6 M ((L ++ [k.nxS (L.getD i.toNat (0, 0, 0)) J]).map k.own) := by
        rw [← hL']
        exact (hs5.keep (hM6.trans hM5.symm)).same (by simp) (fun z => by simp [or_comm])
      obtain ⟨ρ6, e6, sp6, hr6, ha6, hm6⟩ : ∃ ρ6 e6 sp6, Row (sl (L.map k.own ++ [x])) sp6 (n + 1) e6 3 ∧ TmAt ρ6 (bxTI k (n + 1) e6 M i (J : Int)) a6 ∧ MemAt w0 ρ6 (bxM k (L.map k.own ++ [x]) sp6) w6 := by
        rcases h6.2.or with ⟨e6, sp6, h61, rfl, rfl⟩ | ⟨κ, tm7, mem7, hf, e6, sp6, h61, rfl, rfl⟩
        · exact ⟨_, e6, sp6, h61, ha6, hm6⟩
        · obtain ⟨σ7, ha7, hm7⟩ := hf.sound (ρ0 := []) rfl ha6 hm6
          exact ⟨_, e6, sp6, h61, ha7, hm7⟩
      rw [hL'] at hr6 hm6
      exact hQ a6 w6 _ hnew ⟨⟨ρ6, n + 1, e6, sp6, hr6, ha6, hm6, hs6⟩, hs.lo⟩
    | _ => exact (h6 : False).elim
end
section
variable {w0 : Base} {k : Cn} {M : Nat} {L : List S3} {i : Int}
theorem bx_inner {Q : Exit → Act → World → Prop} {a : Act} {w : World} (hI : BxO k i L (insL L)) (hl : i < (L.length : Int)) (hs : BxAt w0 k M L (fun n e => bxTO k n e M i) a w)
    (hQ : ∀ a' w' L', BxO k (w64 (i + 1)) L' (insL L') → BxAt w0 k M L' (fun n e => bxTO k n e M i) a' w' → Q .normal a' w') : bxB1.wp Tryz.prog Q a w := by
  obtain ⟨ρ, n, e, sp, hr, ha, hm, hsn⟩ := hs.ex
  obtain ⟨es, cl, hM⟩ := hsn.obj
  rw [bx_B1]
  refine wp_seq ?_
  refine frag good.tbl good.mix bxX5 (bx_x5 (j := 0) (x := (0, 0, 0)) (k := k) (LI := L.map k.own) (sp := sp) (n := n) (e := e) (M := M) (i := i) hr) rfl (fun e_ tm mem h => by cases e_ <;> first | exact h.1 | exact (h : False).elim) (ρ0 := []) (σ := ρ) rfl ha hm hM (fun e_ σ1 tm1 mem1 a1 w1 h1 ha1 hm1 hM1 => ?_)
  cases e_ with
  | normal =>
    obtain ⟨ρ1, ha1, hm1⟩ := nx_get h1.2.2 ha1 hm1
    refine wp_block (loop_inv (I := fun m a w => ∃ j L, m = (3 - j).toNat ∧ BxI k i j L (insL L) ∧ BxAt w0 k M L (fun n e => bxTI k n e M i j) a w) ?_ ⟨0, L, rfl, hI.enter hl, ⟨⟨ρ1, n, e, sp, hr, ha1, hm1, hsn.keep (hM1.trans hM.symm)⟩, hs.lo⟩⟩)
    rintro m a2 w2 ⟨j, L2, rfl, hI2, hs2⟩
    obtain ⟨ρ2, n2, e2, sp2, hr2, ha2, hm2, hsn2⟩ := hs2.ex
    obtain ⟨es2, cl2, hM2⟩ := hsn2.obj
    refine fragCut good.tbl good.mix 2 bxIB (bx_c26 (x := (0, 0, 0)) (k := k) (LI := L2.map k.own) (sp := sp2) (n := n2) (e := e2) (M := M) (i := i) (j := j) hr2) rfl (fun e_ tm mem h => by
      cases e_ with
      | normal => exact h.1
      | exit q => match q, h with | 2, h => exact h.1
      | _ => exact (h : False).elim) (ρ0 := []) (σ := ρ2) rfl ha2 hm2 hM2 (fun σ3 tm3 mem3 a3 w3 h3 ha3 hm3 hM3 => ?_) (fun e_ σ3 tm3 mem3 a3 w3 hne h3 ha3 hm3 hM3 => ?_)
    · obtain ⟨ρ3, ha3, hm3⟩ := nx_get h3.2.2 ha3 hm3
      have hj3 : j < 3 := of_decide_eq_true h3.2.1
      have hs3 : BxAt w0 k M L2 (fun n e => bxTI k n e M i j) a3 w3 := ⟨⟨ρ3, n2, e2, sp2, hr2, ha3, hm3, hsn2.keep (hM3.trans hM2.symm)⟩, hs2.lo⟩
      rw [bx_IB]
      refine wp_seq (wp_block ?_)
      have key : ∀ a' w' L', BxI k i (w64 (j + 1)) L' (insL L') → BxAt w0 k M L' (fun n e => bxTI k n e M i j) a' w' → bxR19.wp Tryz.prog (fun e_ a' w' => match e_ with
          | .normal => ∃ m, m < (3 - j).toNat ∧ ∃ j L, m = (3 - j).toNat ∧ BxI k i j L (insL L) ∧ BxAt w0 k M L (fun n e => bxTI k n e M i j) a' w'
          | e_ => Exit.inBlock 2 Q e_ a' w') a' w' := by
        intro a4 w4 L4 hI4 hs4
        obtain ⟨ρ4, n4, e4, sp4, hr4, ha4, hm4, hsn4⟩ := hs4.ex
        obtain ⟨es4, cl4, hM4⟩ := hsn4.obj
        refine frag good.tbl good.mix bxR19 (bx_r19 (x := (0, 0, 0)) (k := k) (LI := L4.map k.own) (sp := sp4) (n := n4) (e := e4) (M := M) (i := i) (j := j) hr4) rfl (fun e_ tm mem h => by cases e_ <;> first | exact h.1 | exact (h : False).elim) (ρ0 := []) (σ := ρ4) rfl ha4 hm4 hM4 (fun e_ σ5 tm5 mem5 a5 w5 h5 ha5 hm5 hM5 => ?_)
        cases e_ with
        | normal =>
          obtain ⟨ρ5, ha5, hm5⟩ := nx_get h5.2.2 ha5 hm5
          exact ⟨_, hI2.mu hj3, w64 (j + 1), L4, rfl, hI4, ⟨⟨ρ5, n4, e4, sp4, hr4, ha5, hm5, hsn4.keep (hM5.trans hM4.symm)⟩, hs4.lo⟩⟩
        | _ => exact (h5 : False).elim
      obtain rfl | rfl | rfl := hI2.three hj3
      · exact bx_round 0 (by omega) (fun h1 h2 h3 h4 h5 => bx_rb0 (j := 0) (x := (0, 0, 0)) h1 h2 h3 h4 h5) hI2 hs3 key
      · exact bx_round 1 (by omega) (fun h1 h2 h3 h4 h5 => bx_rb1 (j := 0) (x := (0, 0, 0)) h1 h2 h3 h4 h5) hI2 hs3 key
      · exact bx_round 2 (by omega) (fun h1 h2 h3 h4 h5 => bx_rb2 (j := 0) (x := (0, 0, 0)) h1 h2 h3 h4 h5) hI2 hs3 key
    · cases e_ with
      | normal => exact absurd rfl hne
      | exit q =>
        match q, h3 with
        | 2, h3 =>
          obtain ⟨ρ3, ha3, hm3⟩ := nx_get h3.2.2 ha3 hm3
          exact hQ a3 w3 L2 (hI2.out (of_decide_eq_false h3.2.1)) ⟨⟨ρ3, n2, e2, sp2, hr2, ha3, hm3, hsn2.keep (hM3.trans hM2.symm)⟩, hs2.lo⟩
      | _ => exact (h3 : False).elim
  | _ => exact (h1 : False).elim
theorem bx_outer {Q : Exit → Act → World → Prop} {a : Act} {w : World} (hI : BxO k 0 L (insL L)) (hs : BxAt w0 k M L (fun n e => bxTO k n e M 0) a w)
    (hQ : ∀ a' w' i, BxAt w0 k M (boxL k) (fun n e => bxTO k n e M i) a' w' → Q .normal a' w') : (Code.block 0 (.loop bxOB)).wp Tryz.prog Q a w := by
  refine wp_block (loop_inv (I := fun m a w => ∃ i L, m = (64000001 - i).toNat ∧ BxO k i L (insL L) ∧ BxAt w0 k M L (fun n e => bxTO k n e M i) a w) ?_ ⟨0, L, rfl, hI, hs⟩)
  rintro m a2 w2 ⟨i, L2, rfl, hI2, hs2⟩
  obtain ⟨ρ2, n2, e2, sp2, hr2, ha2, hm2, hsn2⟩ := hs2.ex
  obtain ⟨es2, cl2, hM2⟩ := hsn2.obj
  have hln := row_sl hr2
  rw [List.length_map] at hln
  rw [bx_OB]
  refine wp_seq ?_
  refine frag good.tbl good.mix bxH1 (bx_h1 (j := 0) (x := (0, 0, 0)) (k := k) (LI := L2.map k.own) (sp := sp2) (n := n2) (e := e2) (M := M) (i := i) hr2) rfl (fun e_ tm mem h => by
    cases e_ with
    | normal => exact h.1
    | exit q => match q, h with | 0, h => exact h.1
    | _ => exact (h : False).elim) (ρ0 := []) (σ := ρ2) rfl ha2 hm2 hM2 (fun e_ σ3 tm3 mem3 a3 w3 h3 ha3 hm3 hM3 => ?_)
  cases e_ with
  | normal =>
    obtain ⟨ρ3, ha3, hm3⟩ := nx_get h3.2.2 ha3 hm3
    have hlt : i < (L2.length : Int) := by have := of_decide_eq_true h3.2.1; omega
    refine wp_seq (wp_block (bx_inner hI2 hlt ⟨⟨ρ3, n2, e2, sp2, hr2, ha3, hm3, hsn2.keep (hM3.trans hM2.symm)⟩, hs2.lo⟩ fun a4 w4 L4 hI4 hs4 => ?_))
    obtain ⟨ρ4, n4, e4, sp4, hr4, ha4, hm4, hsn4⟩ := hs4.ex
    obtain ⟨es4, cl4, hM4⟩ := hsn4.obj
    show bxR4.wp Tryz.prog _ a4 w4
    refine frag good.tbl good.mix bxR4 (bx_r4 (j := 0) (x := (0, 0, 0)) (k := k) (LI := L4.map k.own) (sp := sp4) (n := n4) (e := e4) (M := M) (i := i) hr4) rfl (fun e_ tm mem h => by cases e_ <;> first | exact h.1 | exact (h : False).elim) (ρ0 := []) (σ := ρ4) rfl ha4 hm4 hM4 (fun e_ σ5 tm5 mem5 a5 w5 h5 ha5 hm5 hM5 => ?_)
    cases e_ with
    | normal =>
      obtain ⟨ρ5, ha5, hm5⟩ := nx_get h5.2.2 ha5 hm5
      exact ⟨_, hI2.mu hlt, w64 (i + 1), L4, rfl, hI4, ⟨⟨ρ5, n4, e4, sp4, hr4, ha5, hm5, hsn4.keep (hM5.trans hM4.symm)⟩, hs4.lo⟩⟩
    | _ => exact (h5 : False).elim
  | exit q =>
    match q, h3 with
    | 0, h3 =>
      obtain ⟨ρ3, ha3, hm3⟩ := nx_get h3.2.2 ha3 hm3
      obtain ⟨hf, _⟩ := hI2.fin (by have := of_decide_eq_false h3.2.1; omega)
      rw [hf] at hr2 hm3 hsn2
      exact hQ a3 w3 i ⟨⟨ρ3, n2, e2, sp2, hr2, ha3, hm3, hsn2.keep (hM3.trans hM2.symm)⟩, hs2.lo⟩
  | _ => exact (h3 : False).elim
end

end Go.Proofs.YtndmkibdcfpddaaGreat
end

section
/-
  Contracts of functions of the program (printed by a program of this work; Lean checks each).
  Conditions: as each contract states.
-/
namespace Go.Proofs.YtndmkibdcfpddaaGreat
open Go.Ev Go.RowKit
set_option maxRecDepth 100000
set_option linter.unusedVariables false
set_option linter.unusedSimpArgs false

abbrev bxS (x3 x4 x5 x11 x12 x13 x14 x15 x16 x17 x18 : Value) : List Value := [wild, .pointer (some ⟨0, 0, none⟩), .slice none 0 0, x3, x4, x5, wild, wild, wild, wild, wild, x11, x12, x13, x14, x15, x16, x17, x18, wild, wild, wild, wild, wild, wild, wild, wild, wild, wild, wild, wild, wild, wild, wild, wild, wild, wild, wild, wild, wild, wild, wild, wild, wild, wild, wild, wild, wild, wild, wild, wild, wild, wild, wild, wild, wild, wild, wild, wild, wild, wild, wild]

set_option maxHeartbeats 2000000 in
theorem bx_op0 {k : Cn} {M : Nat} {mr : Mem} {x3 x4 x5 x12 x13 x14 x15 x16 x17 x18 : Value}  : opAtK bxO1 0 fun o_ => evOps Tryz.prog tbl bxO1 [o_] (bxS x3 x4 x5 wild x12 x13 x14 x15 x16 x17 x18) (([ii k.a, ii k.b, ii k.c, ii k.d, ii k.e, ii k.f, ii k.g, ii k.h, ii k.i], some t_impl_Cone) :: mr) (fun tm mem => tm = bxS x3 x4 x5 (v9 k.a k.b k.c k.d k.e k.f k.g k.h k.i) x12 x13 x14 x15 x16 x17 x18 ∧ mem = (([ii k.a, ii k.b, ii k.c, ii k.d, ii k.e, ii k.f, ii k.g, ii k.h, ii k.i], some t_impl_Cone) :: mr)) := by
  
  conv => whnf
  all_goals (repeat' first | (refine c_impl_Cone_det.call ?_; conv => whnf) | (refine c_impl_Cone_det.quiet ?_; conv => whnf) | (refine c_impl_size.call ?_; conv => whnf) | (refine c_impl_size.quiet ?_; conv => whnf) | (refine ⟨rfl, rfl⟩) | (refine StoreK.mk rfl ?_; conv => whnf) | exact join_same | exact (by assumption : (_ : Bool) = (_ : Bool)) | (refine br_true (by assumption) ?_; conv => whnf) | (refine br_false (by assumption) ?_; conv => whnf) | (refine br_not ?_; conv => whnf) | (refine br_code ?_; conv => whnf) | (with_reducible refine br_and ?_; conv => whnf) | (with_reducible refine br_or ?_; conv => whnf) | (refine br_eq2 ?_; conv => whnf) | (refine draw_auto (by decide +kernel) ?_; conv => whnf) | (refine draw_asg (by decide +kernel) ?_; conv => whnf) | (refine draw_st (by decide +kernel) ?_; conv => whnf) | (refine draw_call (by decide +kernel) ?_; conv => whnf) | (refine enter_same (loop_n 12 ?_); conv => whnf) | (refine next_same ?_; conv => whnf) | (refine mapK_row (by assumption) ?_; conv => whnf) | (refine mapK_plain (Plain.of rfl) ?_; conv => whnf) | (refine mapK_lit ?_; conv => whnf) | (refine br_split (fun _ => ?_) (fun _ => ?_) <;> conv => whnf) | exact (rfl : (_ : Value) = _) | (simp only [*]; exact (rfl : (_ : Value) = _)) | (simp [*]; done))

set_option maxHeartbeats 2000000 in
theorem bx_op1 {k : Cn} {M : Nat} {mr : Mem} {x3 x4 x5 x13 x14 x15 x16 x17 x18 : Value}  : opAtK bxO1 1 fun o_ => evOps Tryz.prog tbl bxO1 [o_] (bxS x3 x4 x5 (v9 k.a k.b k.c k.d k.e k.f k.g k.h k.i) wild x13 x14 x15 x16 x17 x18) (([ii k.a, ii k.b, ii k.c, ii k.d, ii k.e, ii k.f, ii k.g, ii k.h, ii k.i], some t_impl_Cone) :: mr) (fun tm mem => tm = bxS x3 x4 x5 (v9 k.a k.b k.c k.d k.e k.f k.g k.h k.i) (ii (volF k.a k.b k.c k.d k.e k.f k.g k.h k.i)) x13 x14 x15 x16 x17 x18 ∧ mem = (([ii k.a, ii k.b, ii k.c, ii k.d, ii k.e, ii k.f, ii k.g, ii k.h, ii k.i], some t_impl_Cone) :: mr)) := by
  
  conv => whnf
  all_goals (repeat' first | (refine c_impl_Cone_det.call ?_; conv => whnf) | (refine c_impl_Cone_det.quiet ?_; conv => whnf) | (refine c_impl_size.call ?_; conv => whnf) | (refine c_impl_size.quiet ?_; conv => whnf) | (refine ⟨rfl, rfl⟩) | (refine StoreK.mk rfl ?_; conv => whnf) | exact join_same | exact (by assumption : (_ : Bool) = (_ : Bool)) | (refine br_true (by assumption) ?_; conv => whnf) | (refine br_false (by assumption) ?_; conv => whnf) | (refine br_not ?_; conv => whnf) | (refine br_code ?_; conv => whnf) | (with_reducible refine br_and ?_; conv => whnf) | (with_reducible refine br_or ?_; conv => whnf) | (refine br_eq2 ?_; conv => whnf) | (refine draw_auto (by decide +kernel) ?_; conv => whnf) | (refine draw_asg (by decide +kernel) ?_; conv => whnf) | (refine draw_st (by decide +kernel) ?_; conv => whnf) | (refine draw_call (by decide +kernel) ?_; conv => whnf) | (refine enter_same (loop_n 12 ?_); conv => whnf) | (refine next_same ?_; conv => whnf) | (refine mapK_row (by assumption) ?_; conv => whnf) | (refine mapK_plain (Plain.of rfl) ?_; conv => whnf) | (refine mapK_lit ?_; conv => whnf) | (refine br_split (fun _ => ?_) (fun _ => ?_) <;> conv => whnf) | exact (rfl : (_ : Value) = _) | (simp only [*]; exact (rfl : (_ : Value) = _)) | (simp [*]; done))

set_option maxHeartbeats 2000000 in
theorem bx_op2 {k : Cn} {M : Nat} {mr : Mem} {x3 x4 x5 x11 x14 x15 x16 x17 x18 : Value}  : opAtK bxO1 2 fun o_ => evOps Tryz.prog tbl bxO1 [o_] (bxS x3 x4 x5 x11 (ii (volF k.a k.b k.c k.d k.e k.f k.g k.h k.i)) wild x14 x15 x16 x17 x18) (([ii k.a, ii k.b, ii k.c, ii k.d, ii k.e, ii k.f, ii k.g, ii k.h, ii k.i], some t_impl_Cone) :: mr) (fun tm mem => tm = bxS x3 x4 x5 x11 (ii (volF k.a k.b k.c k.d k.e k.f k.g k.h k.i)) (ii (sizeF (volF k.a k.b k.c k.d k.e k.f k.g k.h k.i))) x14 x15 x16 x17 x18 ∧ mem = (([ii k.a, ii k.b, ii k.c, ii k.d, ii k.e, ii k.f, ii k.g, ii k.h, ii k.i], some t_impl_Cone) :: mr)) := by
  
  conv => whnf
  all_goals (repeat' first | (refine c_impl_Cone_det.call ?_; conv => whnf) | (refine c_impl_Cone_det.quiet ?_; conv => whnf) | (refine c_impl_size.call ?_; conv => whnf) | (refine c_impl_size.quiet ?_; conv => whnf) | (refine ⟨rfl, rfl⟩) | (refine StoreK.mk rfl ?_; conv => whnf) | exact join_same | exact (by assumption : (_ : Bool) = (_ : Bool)) | (refine br_true (by assumption) ?_; conv => whnf) | (refine br_false (by assumption) ?_; conv => whnf) | (refine br_not ?_; conv => whnf) | (refine br_code ?_; conv => whnf) | (with_reducible refine br_and ?_; conv => whnf) | (with_reducible refine br_or ?_; conv => whnf) | (refine br_eq2 ?_; conv => whnf) | (refine draw_auto (by decide +kernel) ?_; conv => whnf) | (refine draw_asg (by decide +kernel) ?_; conv => whnf) | (refine draw_st (by decide +kernel) ?_; conv => whnf) | (refine draw_call (by decide +kernel) ?_; conv => whnf) | (refine enter_same (loop_n 12 ?_); conv => whnf) | (refine next_same ?_; conv => whnf) | (refine mapK_row (by assumption) ?_; conv => whnf) | (refine mapK_plain (Plain.of rfl) ?_; conv => whnf) | (refine mapK_lit ?_; conv => whnf) | (refine br_split (fun _ => ?_) (fun _ => ?_) <;> conv => whnf) | exact (rfl : (_ : Value) = _) | (simp only [*]; exact (rfl : (_ : Value) = _)) | (simp [*]; done))

set_option maxHeartbeats 2000000 in
theorem bx_op4 {k : Cn} {M : Nat} {mr : Mem} {x3 x4 x5 x11 x12 x13 x16 x17 x18 : Value}  : opAtK bxO1 4 fun o_ => evOps Tryz.prog tbl bxO1 [o_] (bxS x3 x4 x5 x11 x12 x13 (v3 0 0 0) wild x16 x17 x18) [([ii k.a, ii k.b, ii k.c, ii k.d, ii k.e, ii k.f, ii k.g, ii k.h, ii k.i], some t_impl_Cone)] (fun tm mem => tm = bxS x3 x4 x5 x11 x12 x13 (v3 0 0 0) (.slice (some ⟨1, 0, none⟩) 1 1) x16 x17 x18 ∧ mem = [([ii k.a, ii k.b, ii k.c, ii k.d, ii k.e, ii k.f, ii k.g, ii k.h, ii k.i], some t_impl_Cone), ([ii 0, ii 0, ii 0], some t_impl_Spot)]) := by
  
  conv => whnf
  all_goals (repeat' first | (refine c_impl_Cone_det.call ?_; conv => whnf) | (refine c_impl_Cone_det.quiet ?_; conv => whnf) | (refine c_impl_size.call ?_; conv => whnf) | (refine c_impl_size.quiet ?_; conv => whnf) | (refine ⟨rfl, rfl⟩) | (refine StoreK.mk rfl ?_; conv => whnf) | exact join_same | exact (by assumption : (_ : Bool) = (_ : Bool)) | (refine br_true (by assumption) ?_; conv => whnf) | (refine br_false (by assumption) ?_; conv => whnf) | (refine br_not ?_; conv => whnf) | (refine br_code ?_; conv => whnf) | (with_reducible refine br_and ?_; conv => whnf) | (with_reducible refine br_or ?_; conv => whnf) | (refine br_eq2 ?_; conv => whnf) | (refine draw_auto (by decide +kernel) ?_; conv => whnf) | (refine draw_asg (by decide +kernel) ?_; conv => whnf) | (refine draw_st (by decide +kernel) ?_; conv => whnf) | (refine draw_call (by decide +kernel) ?_; conv => whnf) | (refine enter_same (loop_n 12 ?_); conv => whnf) | (refine next_same ?_; conv => whnf) | (refine mapK_row (by assumption) ?_; conv => whnf) | (refine mapK_plain (Plain.of rfl) ?_; conv => whnf) | (refine mapK_lit ?_; conv => whnf) | (refine br_split (fun _ => ?_) (fun _ => ?_) <;> conv => whnf) | exact (rfl : (_ : Value) = _) | (simp only [*]; exact (rfl : (_ : Value) = _)) | (simp [*]; done))

set_option maxHeartbeats 2000000 in
theorem bx_op8 {k : Cn} {M : Nat} {mr : Mem} {x3 x4 x5 x11 x12 x13 x14 x15 x17 : Value}  : opAtK bxO1 8 fun o_ => evOps Tryz.prog tbl bxO1 [o_] (bxS x3 x4 x5 x11 x12 x13 x14 x15 (.map (some M)) x17 wild) (([ii k.a, ii k.b, ii k.c, ii k.d, ii k.e, ii k.f, ii k.g, ii k.h, ii k.i], some t_impl_Cone) :: mr) (fun tm mem => tm = bxS x3 x4 x5 x11 x12 x13 x14 x15 (.map (some M)) x17 (.map (some M)) ∧ mem = (([ii k.a, ii k.b, ii k.c, ii k.d, ii k.e, ii k.f, ii k.g, ii k.h, ii k.i], some t_impl_Cone) :: mr)) := by
  
  conv => whnf
  all_goals (repeat' first | (refine c_impl_Cone_det.call ?_; conv => whnf) | (refine c_impl_Cone_det.quiet ?_; conv => whnf) | (refine c_impl_size.call ?_; conv => whnf) | (refine c_impl_size.quiet ?_; conv => whnf) | (refine ⟨rfl, rfl⟩) | (refine StoreK.mk rfl ?_; conv => whnf) | exact join_same | exact (by assumption : (_ : Bool) = (_ : Bool)) | (refine br_true (by assumption) ?_; conv => whnf) | (refine br_false (by assumption) ?_; conv => whnf) | (refine br_not ?_; conv => whnf) | (refine br_code ?_; conv => whnf) | (with_reducible refine br_and ?_; conv => whnf) | (with_reducible refine br_or ?_; conv => whnf) | (refine br_eq2 ?_; conv => whnf) | (refine draw_auto (by decide +kernel) ?_; conv => whnf) | (refine draw_asg (by decide +kernel) ?_; conv => whnf) | (refine draw_st (by decide +kernel) ?_; conv => whnf) | (refine draw_call (by decide +kernel) ?_; conv => whnf) | (refine enter_same (loop_n 12 ?_); conv => whnf) | (refine next_same ?_; conv => whnf) | (refine mapK_row (by assumption) ?_; conv => whnf) | (refine mapK_plain (Plain.of rfl) ?_; conv => whnf) | (refine mapK_lit ?_; conv => whnf) | (refine br_split (fun _ => ?_) (fun _ => ?_) <;> conv => whnf) | exact (rfl : (_ : Value) = _) | (simp only [*]; exact (rfl : (_ : Value) = _)) | (simp [*]; done))

set_option maxHeartbeats 2000000 in
theorem bx_op9 {k : Cn} {M : Nat} {mr : Mem} {x4 x5 x11 x12 x14 x15 x16 x17 x18 : Value}  : opAtK bxO1 9 fun o_ => evOps Tryz.prog tbl bxO1 [o_] (bxS wild x4 x5 x11 x12 (ii (sizeF (volF k.a k.b k.c k.d k.e k.f k.g k.h k.i))) x14 x15 x16 x17 x18) (([ii k.a, ii k.b, ii k.c, ii k.d, ii k.e, ii k.f, ii k.g, ii k.h, ii k.i], some t_impl_Cone) :: mr) (fun tm mem => tm = bxS (ii (sizeF (volF k.a k.b k.c k.d k.e k.f k.g k.h k.i))) x4 x5 x11 x12 (ii (sizeF (volF k.a k.b k.c k.d k.e k.f k.g k.h k.i))) x14 x15 x16 x17 x18 ∧ mem = (([ii k.a, ii k.b, ii k.c, ii k.d, ii k.e, ii k.f, ii k.g, ii k.h, ii k.i], some t_impl_Cone) :: mr)) := by
  
  conv => whnf
  all_goals (repeat' first | (refine c_impl_Cone_det.call ?_; conv => whnf) | (refine c_impl_Cone_det.quiet ?_; conv => whnf) | (refine c_impl_size.call ?_; conv => whnf) | (refine c_impl_size.quiet ?_; conv => whnf) | (refine ⟨rfl, rfl⟩) | (refine StoreK.mk rfl ?_; conv => whnf) | exact join_same | exact (by assumption : (_ : Bool) = (_ : Bool)) | (refine br_true (by assumption) ?_; conv => whnf) | (refine br_false (by assumption) ?_; conv => whnf) | (refine br_not ?_; conv => whnf) | (refine br_code ?_; conv => whnf) | (with_reducible refine br_and ?_; conv => whnf) | (with_reducible refine br_or ?_; conv => whnf) | (refine br_eq2 ?_; conv => whnf) | (refine draw_auto (by decide +kernel) ?_; conv => whnf) | (refine draw_asg (by decide +kernel) ?_; conv => whnf) | (refine draw_st (by decide +kernel) ?_; conv => whnf) | (refine draw_call (by decide +kernel) ?_; conv => whnf) | (refine enter_same (loop_n 12 ?_); conv => whnf) | (refine next_same ?_; conv => whnf) | (refine mapK_row (by assumption) ?_; conv => whnf) | (refine mapK_plain (Plain.of rfl) ?_; conv => whnf) | (refine mapK_lit ?_; conv => whnf) | (refine br_split (fun _ => ?_) (fun _ => ?_) <;> conv => whnf) | exact (rfl : (_ : Value) = _) | (simp only [*]; exact (rfl : (_ : Value) = _)) | (simp [*]; done))

set_option maxHeartbeats 2000000 in
theorem bx_op10 {k : Cn} {M : Nat} {mr : Mem} {x3 x5 x11 x12 x13 x14 x16 x17 x18 : Value}  : opAtK bxO1 10 fun o_ => evOps Tryz.prog tbl bxO1 [o_] (bxS x3 wild x5 x11 x12 x13 x14 (.slice (some ⟨1, 0, none⟩) 1 1) x16 x17 x18) (([ii k.a, ii k.b, ii k.c, ii k.d, ii k.e, ii k.f, ii k.g, ii k.h, ii k.i], some t_impl_Cone) :: mr) (fun tm mem => tm = bxS x3 (.slice (some ⟨1, 0, none⟩) 1 1) x5 x11 x12 x13 x14 (.slice (some ⟨1, 0, none⟩) 1 1) x16 x17 x18 ∧ mem = (([ii k.a, ii k.b, ii k.c, ii k.d, ii k.e, ii k.f, ii k.g, ii k.h, ii k.i], some t_impl_Cone) :: mr)) := by
  
  conv => whnf
  all_goals (repeat' first | (refine c_impl_Cone_det.call ?_; conv => whnf) | (refine c_impl_Cone_det.quiet ?_; conv => whnf) | (refine c_impl_size.call ?_; conv => whnf) | (refine c_impl_size.quiet ?_; conv => whnf) | (refine ⟨rfl, rfl⟩) | (refine StoreK.mk rfl ?_; conv => whnf) | exact join_same | exact (by assumption : (_ : Bool) = (_ : Bool)) | (refine br_true (by assumption) ?_; conv => whnf) | (refine br_false (by assumption) ?_; conv => whnf) | (refine br_not ?_; conv => whnf) | (refine br_code ?_; conv => whnf) | (with_reducible refine br_and ?_; conv => whnf) | (with_reducible refine br_or ?_; conv => whnf) | (refine br_eq2 ?_; conv => whnf) | (refine draw_auto (by decide +kernel) ?_; conv => whnf) | (refine draw_asg (by decide +kernel) ?_; conv => whnf) | (refine draw_st (by decide +kernel) ?_; conv => whnf) | (refine draw_call (by decide +kernel) ?_; conv => whnf) | (refine enter_same (loop_n 12 ?_); conv => whnf) | (refine next_same ?_; conv => whnf) | (refine mapK_row (by assumption) ?_; conv => whnf) | (refine mapK_plain (Plain.of rfl) ?_; conv => whnf) | (refine mapK_lit ?_; conv => whnf) | (refine br_split (fun _ => ?_) (fun _ => ?_) <;> conv => whnf) | exact (rfl : (_ : Value) = _) | (simp only [*]; exact (rfl : (_ : Value) = _)) | (simp [*]; done))

set_option maxHeartbeats 2000000 in
theorem bx_op11 {k : Cn} {M : Nat} {mr : Mem} {x3 x4 x11 x12 x13 x14 x15 x16 x17 : Value}  : opAtK bxO1 11 fun o_ => evOps Tryz.prog tbl bxO1 [o_] (bxS x3 x4 wild x11 x12 x13 x14 x15 x16 x17 (.map (some M))) (([ii k.a, ii k.b, ii k.c, ii k.d, ii k.e, ii k.f, ii k.g, ii k.h, ii k.i], some t_impl_Cone) :: mr) (fun tm mem => tm = bxS x3 x4 (.map (some M)) x11 x12 x13 x14 x15 x16 x17 (.map (some M)) ∧ mem = (([ii k.a, ii k.b, ii k.c, ii k.d, ii k.e, ii k.f, ii k.g, ii k.h, ii k.i], some t_impl_Cone) :: mr)) := by
  
  conv => whnf
  all_goals (repeat' first | (refine c_impl_Cone_det.call ?_; conv => whnf) | (refine c_impl_Cone_det.quiet ?_; conv => whnf) | (refine c_impl_size.call ?_; conv => whnf) | (refine c_impl_size.quiet ?_; conv => whnf) | (refine ⟨rfl, rfl⟩) | (refine StoreK.mk rfl ?_; conv => whnf) | exact join_same | exact (by assumption : (_ : Bool) = (_ : Bool)) | (refine br_true (by assumption) ?_; conv => whnf) | (refine br_false (by assumption) ?_; conv => whnf) | (refine br_not ?_; conv => whnf) | (refine br_code ?_; conv => whnf) | (with_reducible refine br_and ?_; conv => whnf) | (with_reducible refine br_or ?_; conv => whnf) | (refine br_eq2 ?_; conv => whnf) | (refine draw_auto (by decide +kernel) ?_; conv => whnf) | (refine draw_asg (by decide +kernel) ?_; conv => whnf) | (refine draw_st (by decide +kernel) ?_; conv => whnf) | (refine draw_call (by decide +kernel) ?_; conv => whnf) | (refine enter_same (loop_n 12 ?_); conv => whnf) | (refine next_same ?_; conv => whnf) | (refine mapK_row (by assumption) ?_; conv => whnf) | (refine mapK_plain (Plain.of rfl) ?_; conv => whnf) | (refine mapK_lit ?_; conv => whnf) | (refine br_split (fun _ => ?_) (fun _ => ?_) <;> conv => whnf) | exact (rfl : (_ : Value) = _) | (simp only [*]; exact (rfl : (_ : Value) = _)) | (simp [*]; done))

set_option maxHeartbeats 2000000 in
theorem bx_op3 {k : Cn} {M : Nat} {mr : Mem} {x3 x4 x5 x11 x12 x13 x15 x16 x17 x18 : Value}  : opAtK bxO1 3 fun o_ => evOps Tryz.prog tbl bxO1 [o_] (bxS x3 x4 x5 x11 x12 x13 wild x15 x16 x17 x18) (([ii k.a, ii k.b, ii k.c, ii k.d, ii k.e, ii k.f, ii k.g, ii k.h, ii k.i], some t_impl_Cone) :: mr) (fun tm mem => tm = bxS x3 x4 x5 x11 x12 x13 (v3 0 0 0) x15 x16 x17 x18 ∧ mem = (([ii k.a, ii k.b, ii k.c, ii k.d, ii k.e, ii k.f, ii k.g, ii k.h, ii k.i], some t_impl_Cone) :: mr)) := by
  
  conv => whnf
  all_goals (repeat' first | (refine c_impl_Cone_det.call ?_; conv => whnf) | (refine c_impl_Cone_det.quiet ?_; conv => whnf) | (refine c_impl_size.call ?_; conv => whnf) | (refine c_impl_size.quiet ?_; conv => whnf) | (refine ⟨rfl, rfl⟩) | (refine StoreK.mk rfl ?_; conv => whnf) | exact join_same | exact (by assumption : (_ : Bool) = (_ : Bool)) | (refine br_true (by assumption) ?_; conv => whnf) | (refine br_false (by assumption) ?_; conv => whnf) | (refine br_not ?_; conv => whnf) | (refine br_code ?_; conv => whnf) | (with_reducible refine br_and ?_; conv => whnf) | (with_reducible refine br_or ?_; conv => whnf) | (refine br_eq2 ?_; conv => whnf) | (refine draw_auto (by decide +kernel) ?_; conv => whnf) | (refine draw_asg (by decide +kernel) ?_; conv => whnf) | (refine draw_st (by decide +kernel) ?_; conv => whnf) | (refine draw_call (by decide +kernel) ?_; conv => whnf) | (refine enter_same (loop_n 12 ?_); conv => whnf) | (refine next_same ?_; conv => whnf) | (refine mapK_row (by assumption) ?_; conv => whnf) | (refine mapK_plain (Plain.of rfl) ?_; conv => whnf) | (refine mapK_lit ?_; conv => whnf) | (refine br_split (fun _ => ?_) (fun _ => ?_) <;> conv => whnf) | exact (rfl : (_ : Value) = _) | (simp only [*]; exact (rfl : (_ : Value) = _)) | (simp [*]; done))

set_option maxHeartbeats 2000000 in
theorem bx_op6 {k : Cn} {M : Nat} {mr : Mem} {x3 x4 x5 x11 x12 x13 x14 x15 x16 x18 : Value}  : opAtK bxO1 6 fun o_ => evOps Tryz.prog tbl bxO1 [o_] (bxS x3 x4 x5 x11 x12 x13 x14 x15 x16 wild x18) (([ii k.a, ii k.b, ii k.c, ii k.d, ii k.e, ii k.f, ii k.g, ii k.h, ii k.i], some t_impl_Cone) :: mr) (fun tm mem => tm = bxS x3 x4 x5 x11 x12 x13 x14 x15 x16 (v3 0 0 0) x18 ∧ mem = (([ii k.a, ii k.b, ii k.c, ii k.d, ii k.e, ii k.f, ii k.g, ii k.h, ii k.i], some t_impl_Cone) :: mr)) := by
  
  conv => whnf
  all_goals (repeat' first | (refine c_impl_Cone_det.call ?_; conv => whnf) | (refine c_impl_Cone_det.quiet ?_; conv => whnf) | (refine c_impl_size.call ?_; conv => whnf) | (refine c_impl_size.quiet ?_; conv => whnf) | (refine ⟨rfl, rfl⟩) | (refine StoreK.mk rfl ?_; conv => whnf) | exact join_same | exact (by assumption : (_ : Bool) = (_ : Bool)) | (refine br_true (by assumption) ?_; conv => whnf) | (refine br_false (by assumption) ?_; conv => whnf) | (refine br_not ?_; conv => whnf) | (refine br_code ?_; conv => whnf) | (with_reducible refine br_and ?_; conv => whnf) | (with_reducible refine br_or ?_; conv => whnf) | (refine br_eq2 ?_; conv => whnf) | (refine draw_auto (by decide +kernel) ?_; conv => whnf) | (refine draw_asg (by decide +kernel) ?_; conv => whnf) | (refine draw_st (by decide +kernel) ?_; conv => whnf) | (refine draw_call (by decide +kernel) ?_; conv => whnf) | (refine enter_same (loop_n 12 ?_); conv => whnf) | (refine next_same ?_; conv => whnf) | (refine mapK_row (by assumption) ?_; conv => whnf) | (refine mapK_plain (Plain.of rfl) ?_; conv => whnf) | (refine mapK_lit ?_; conv => whnf) | (refine br_split (fun _ => ?_) (fun _ => ?_) <;> conv => whnf) | exact (rfl : (_ : Value) = _) | (simp only [*]; exact (rfl : (_ : Value) = _)) | (simp [*]; done))

theorem bx_d5 : ∃ o, bxO1.toArray[5]? = some o ∧ o.op = .makeMap 88 none ∧ o.dst = some 16 ∧ o.guard = none := ⟨_, rfl, rfl, rfl, rfl⟩
theorem bx_d7 : ∃ o, bxO1.toArray[7]? = some o ∧ o.op = .insert 88 (.tmp 16) (.tmp 17) (.const (.bool true)) ∧ o.dst = none ∧ o.guard = none := ⟨_, rfl, rfl, rfl, rfl⟩
section
variable {w0 : Base} {k : Cn} {Q : Exit → Act → World → Prop} {ρ : List Nat} {mem : Mem} {a : Act} {w : World} {K : Act → World → Prop} {x3 x4 x5 x11 x12 x13 x14 x15 x17 x18 : Value}
theorem bx_make (ha : TmAt ρ (bxS x3 x4 x5 x11 x12 x13 x14 x15 wild x17 x18) a) (hm : MemAt w0 ρ mem w)
    (h : ∀ M a2 w2, TmAt ρ (bxS x3 x4 x5 x11 x12 x13 x14 x15 (.map (some M)) x17 x18) a2 → MemAt w0 ρ mem w2 → SeenAt w2 M [] → w0.w.heap.size ≤ M → K a2 w2) : wpOp Tryz.prog bxO1.toArray (noPan Q) 5 K a w := by
  obtain ⟨o, ho, h1, h2, h3⟩ := bx_d5
  unfold wpOp
  rw [ho]
  have hw : ∀ y, Region.wanted o y = true := fun y => by simp [Region.wanted, h3]
  simp only
  rw [if_pos (hw _)]
  refine .inl ?_
  unfold Oper.wp
  have e : (execOp a.eval o).run Tryz.prog w = .ok (.value (.map (some w.heap.size))) (w.alloc (.map #[] 0)) := by
    unfold execOp
    rw [h1]
    rfl
  rw [e]
  show K (a.put o.dst (.map (some w.heap.size))) (w.alloc (.map #[] 0))
  rw [h2]
  have hsz : a.tmps.size = 62 := ha.size
  have ha2 := (ha.putWild (d := 16) rfl (.map (some w.heap.size))).set (i := 16) (v := .map (some w.heap.size)) (by
    simp [Act.put, Array.getElem?_setIfInBounds, hsz, conc, conc1, conc0]) trivial
  exact h w.heap.size _ _ ha2 (hm.grown (World.grownBy_alloc w _ none) (fun r e => by cases e)) (seen_made w) hm.size
theorem bx_put {M : Nat} (ha : TmAt ρ (bxS x3 x4 x5 x11 x12 x13 x14 x15 (.map (some M)) (v3 0 0 0) x18) a) (hm : MemAt w0 ρ mem w) (hs : SeenAt w M []) (hlo : w0.w.heap.size ≤ M)
    (h : ∀ w2, MemAt w0 ρ mem w2 → SeenAt w2 M [(0, 0, 0)] → K a w2) : wpOp Tryz.prog bxO1.toArray (noPan Q) 7 K a w := by
  obtain ⟨o, ho, h1, h2, h3⟩ := bx_d7
  unfold wpOp
  rw [ho]
  have hw : ∀ y, Region.wanted o y = true := fun y => by simp [Region.wanted, h3]
  simp only
  rw [if_pos (hw _)]
  refine .inl ?_
  unfold Oper.wp
  obtain ⟨es, cl, hM⟩ := hs.obj
  obtain ⟨w2, hrun, hs2, hg⟩ := hs.put (x := (0, 0, 0)) ⟨wf64 (by decide), wf64 (by decide), wf64 (by decide)⟩ (by decide)
  have e16 : a.eval (.tmp 16) = .map (some M) := (ha.eval 16 rfl).1
  have e17 : a.eval (.tmp 17) = spV (0, 0, 0) := (ha.eval 17 rfl).1
  have ec : a.eval (.const (.bool true)) = .bool true := rfl
  have e : (execOp a.eval o).run Tryz.prog w = .ok .skip w2 := by
    unfold execOp
    rw [h1]
    simp only [e16, e17, ec, Sem.run_bind, hrun, Result.andThen_ok, Sem.run_pure]
  rw [e]
  show K (a.put o.dst undef) w2
  rw [h2]
  exact h w2 (hm.grown hg (fun r er => by cases er; exact ⟨hlo, _, hM, rfl⟩)) hs2
end

section
variable {w0 : Base} {k : Cn} {Q : Exit → Act → World → Prop} (hQ : ∀ ρ M a w, TmAt ρ (bxS (ii (sizeF (volF k.a k.b k.c k.d k.e k.f k.g k.h k.i))) (.slice (some ⟨1, 0, none⟩) 1 1) (.map (some M)) (v9 k.a k.b k.c k.d k.e k.f k.g k.h k.i) (ii (volF k.a k.b k.c k.d k.e k.f k.g k.h k.i)) (ii (sizeF (volF k.a k.b k.c k.d k.e k.f k.g k.h k.i))) (v3 0 0 0) (.slice (some ⟨1, 0, none⟩) 1 1) (.map (some M)) (v3 0 0 0) (.map (some M))) a → MemAt w0 ρ [([ii k.a, ii k.b, ii k.c, ii k.d, ii k.e, ii k.f, ii k.g, ii k.h, ii k.i], some t_impl_Cone), ([ii 0, ii 0, ii 0], some t_impl_Spot)] w → SeenAt w M [(0, 0, 0)] → w0.w.heap.size ≤ M → Q .normal a w)
include hQ

theorem bx_st_0_1_2_4_5_7_8_9_10_11 {ρ : List Nat} {M : Nat} {a : Act} {w : World} {l : Array Bool} (hl : l = #[true, true, true, true, true, true, true, true, true, true, true, true]) (ha : TmAt ρ (bxS (ii (sizeF (volF k.a k.b k.c k.d k.e k.f k.g k.h k.i))) (.slice (some ⟨1, 0, none⟩) 1 1) (.map (some M)) (v9 k.a k.b k.c k.d k.e k.f k.g k.h k.i) (ii (volF k.a k.b k.c k.d k.e k.f k.g k.h k.i)) (ii (sizeF (volF k.a k.b k.c k.d k.e k.f k.g k.h k.i))) (v3 0 0 0) (.slice (some ⟨1, 0, none⟩) 1 1) (.map (some M)) (v3 0 0 0) (.map (some M))) a) (hm : MemAt w0 ρ [([ii k.a, ii k.b, ii k.c, ii k.d, ii k.e, ii k.f, ii k.g, ii k.h, ii k.i], some t_impl_Cone), ([ii 0, ii 0, ii 0], some t_impl_Spot)] w) (hs : SeenAt w M [(0, 0, 0)]) (hlo : w0.w.heap.size ≤ M) : wpAny Tryz.prog .any bxO1.toArray (noPan Q) 0 l a w := by
  subst hl
  exact ⟨by decide +kernel, hQ ρ M a w ha hm hs hlo⟩

theorem bx_st_0_1_2_4_5_7_8_9_10 {ρ : List Nat} {M : Nat} {a : Act} {w : World} {l : Array Bool} (hl : l = #[true, true, true, true, true, true, true, true, true, true, true, false]) (ha : TmAt ρ (bxS (ii (sizeF (volF k.a k.b k.c k.d k.e k.f k.g k.h k.i))) (.slice (some ⟨1, 0, none⟩) 1 1) wild (v9 k.a k.b k.c k.d k.e k.f k.g k.h k.i) (ii (volF k.a k.b k.c k.d k.e k.f k.g k.h k.i)) (ii (sizeF (volF k.a k.b k.c k.d k.e k.f k.g k.h k.i))) (v3 0 0 0) (.slice (some ⟨1, 0, none⟩) 1 1) (.map (some M)) (v3 0 0 0) (.map (some M))) a) (hm : MemAt w0 ρ [([ii k.a, ii k.b, ii k.c, ii k.d, ii k.e, ii k.f, ii k.g, ii k.h, ii k.i], some t_impl_Cone), ([ii 0, ii 0, ii 0], some t_impl_Spot)] w) (hs : SeenAt w M [(0, 0, 0)]) (hlo : w0.w.heap.size ≤ M) : wpAny Tryz.prog .any bxO1.toArray (noPan Q) 1 l a w := by
  subst hl
  refine wpAny_all (rs := [11]) (by decide +kernel) (by simp) fun i hi => ?_
  simp only [List.mem_cons, List.not_mem_nil, or_false] at hi
  obtain ⟨es_, cl_, hM_⟩ := hs.obj
  subst hi
  · exact fragOp good.tbl (bx_op11 (M := M) (mr := [([ii 0, ii 0, ii 0], some t_impl_Spot)])) rfl (by rintro _ _ ⟨rfl, rfl⟩; rfl) ha hm hM_ (fun σ_ tm_ mem_ a_ w_ hk_ ha_ hm_ hM2_ => by obtain ⟨rfl, rfl⟩ := hk_; exact bx_st_0_1_2_4_5_7_8_9_10_11 hQ rfl ha_ hm_ (hs.keep (hM2_.trans hM_.symm)) hlo)

theorem bx_st_0_1_2_4_5_7_8_9 {ρ : List Nat} {M : Nat} {a : Act} {w : World} {l : Array Bool} (hl : l = #[true, true, true, true, true, true, true, true, true, true, false, false]) (ha : TmAt ρ (bxS (ii (sizeF (volF k.a k.b k.c k.d k.e k.f k.g k.h k.i))) wild wild (v9 k.a k.b k.c k.d k.e k.f k.g k.h k.i) (ii (volF k.a k.b k.c k.d k.e k.f k.g k.h k.i)) (ii (sizeF (volF k.a k.b k.c k.d k.e k.f k.g k.h k.i))) (v3 0 0 0) (.slice (some ⟨1, 0, none⟩) 1 1) (.map (some M)) (v3 0 0 0) (.map (some M))) a) (hm : MemAt w0 ρ [([ii k.a, ii k.b, ii k.c, ii k.d, ii k.e, ii k.f, ii k.g, ii k.h, ii k.i], some t_impl_Cone), ([ii 0, ii 0, ii 0], some t_impl_Spot)] w) (hs : SeenAt w M [(0, 0, 0)]) (hlo : w0.w.heap.size ≤ M) : wpAny Tryz.prog .any bxO1.toArray (noPan Q) 2 l a w := by
  subst hl
  refine wpAny_all (rs := [10]) (by decide +kernel) (by simp) fun i hi => ?_
  simp only [List.mem_cons, List.not_mem_nil, or_false] at hi
  obtain ⟨es_, cl_, hM_⟩ := hs.obj
  subst hi
  · exact fragOp good.tbl (bx_op10 (M := M) (mr := [([ii 0, ii 0, ii 0], some t_impl_Spot)])) rfl (by rintro _ _ ⟨rfl, rfl⟩; rfl) ha hm hM_ (fun σ_ tm_ mem_ a_ w_ hk_ ha_ hm_ hM2_ => by obtain ⟨rfl, rfl⟩ := hk_; exact bx_st_0_1_2_4_5_7_8_9_10 hQ rfl ha_ hm_ (hs.keep (hM2_.trans hM_.symm)) hlo)

theorem bx_st_0_1_2_4_5_7_9_10 {ρ : List Nat} {M : Nat} {a : Act} {w : World} {l : Array Bool} (hl : l = #[true, true, true, true, true, true, true, true, false, true, true, false]) (ha : TmAt ρ (bxS (ii (sizeF (volF k.a k.b k.c k.d k.e k.f k.g k.h k.i))) (.slice (some ⟨1, 0, none⟩) 1 1) wild (v9 k.a k.b k.c k.d k.e k.f k.g k.h k.i) (ii (volF k.a k.b k.c k.d k.e k.f k.g k.h k.i)) (ii (sizeF (volF k.a k.b k.c k.d k.e k.f k.g k.h k.i))) (v3 0 0 0) (.slice (some ⟨1, 0, none⟩) 1 1) (.map (some M)) (v3 0 0 0) wild) a) (hm : MemAt w0 ρ [([ii k.a, ii k.b, ii k.c, ii k.d, ii k.e, ii k.f, ii k.g, ii k.h, ii k.i], some t_impl_Cone), ([ii 0, ii 0, ii 0], some t_impl_Spot)] w) (hs : SeenAt w M [(0, 0, 0)]) (hlo : w0.w.heap.size ≤ M) : wpAny Tryz.prog .any bxO1.toArray (noPan Q) 2 l a w := by
  subst hl
  refine wpAny_all (rs := [8]) (by decide +kernel) (by simp) fun i hi => ?_
  simp only [List.mem_cons, List.not_mem_nil, or_false] at hi
  obtain ⟨es_, cl_, hM_⟩ := hs.obj
  subst hi
  · exact fragOp good.tbl (bx_op8 (M := M) (mr := [([ii 0, ii 0, ii 0], some t_impl_Spot)])) rfl (by rintro _ _ ⟨rfl, rfl⟩; rfl) ha hm hM_ (fun σ_ tm_ mem_ a_ w_ hk_ ha_ hm_ hM2_ => by obtain ⟨rfl, rfl⟩ := hk_; exact bx_st_0_1_2_4_5_7_8_9_10 hQ rfl ha_ hm_ (hs.keep (hM2_.trans hM_.symm)) hlo)

theorem bx_st_0_1_2_4_5_7_8 {ρ : List Nat} {M : Nat} {a : Act} {w : World} {l : Array Bool} (hl : l = #[true, true, true, true, true, true, true, true, true, false, false, false]) (ha : TmAt ρ (bxS wild wild wild (v9 k.a k.b k.c k.d k.e k.f k.g k.h k.i) (ii (volF k.a k.b k.c k.d k.e k.f k.g k.h k.i)) (ii (sizeF (volF k.a k.b k.c k.d k.e k.f k.g k.h k.i))) (v3 0 0 0) (.slice (some ⟨1, 0, none⟩) 1 1) (.map (some M)) (v3 0 0 0) (.map (some M))) a) (hm : MemAt w0 ρ [([ii k.a, ii k.b, ii k.c, ii k.d, ii k.e, ii k.f, ii k.g, ii k.h, ii k.i], some t_impl_Cone), ([ii 0, ii 0, ii 0], some t_impl_Spot)] w) (hs : SeenAt w M [(0, 0, 0)]) (hlo : w0.w.heap.size ≤ M) : wpAny Tryz.prog .any bxO1.toArray (noPan Q) 3 l a w := by
  subst hl
  refine wpAny_all (rs := [9]) (by decide +kernel) (by simp) fun i hi => ?_
  simp only [List.mem_cons, List.not_mem_nil, or_false] at hi
  obtain ⟨es_, cl_, hM_⟩ := hs.obj
  subst hi
  · exact fragOp good.tbl (bx_op9 (M := M) (mr := [([ii 0, ii 0, ii 0], some t_impl_Spot)])) rfl (by rintro _ _ ⟨rfl, rfl⟩; rfl) ha hm hM_ (fun σ_ tm_ mem_ a_ w_ hk_ ha_ hm_ hM2_ => by obtain ⟨rfl, rfl⟩ := hk_; exact bx_st_0_1_2_4_5_7_8_9 hQ rfl ha_ hm_ (hs.keep (hM2_.trans hM_.symm)) hlo)

theorem bx_st_0_1_2_4_5_7_9 {ρ : List Nat} {M : Nat} {a : Act} {w : World} {l : Array Bool} (hl : l = #[true, true, true, true, true, true, true, true, false, true, false, false]) (ha : TmAt ρ (bxS (ii (sizeF (volF k.a k.b k.c k.d k.e k.f k.g k.h k.i))) wild wild (v9 k.a k.b k.c k.d k.e k.f k.g k.h k.i) (ii (volF k.a k.b k.c k.d k.e k.f k.g k.h k.i)) (ii (sizeF (volF k.a k.b k.c k.d k.e k.f k.g k.h k.i))) (v3 0 0 0) (.slice (some ⟨1, 0, none⟩) 1 1) (.map (some M)) (v3 0 0 0) wild) a) (hm : MemAt w0 ρ [([ii k.a, ii k.b, ii k.c, ii k.d, ii k.e, ii k.f, ii k.g, ii k.h, ii k.i], some t_impl_Cone), ([ii 0, ii 0, ii 0], some t_impl_Spot)] w) (hs : SeenAt w M [(0, 0, 0)]) (hlo : w0.w.heap.size ≤ M) : wpAny Tryz.prog .any bxO1.toArray (noPan Q) 3 l a w := by
  subst hl
  refine wpAny_all (rs := [8, 10]) (by decide +kernel) (by simp) fun i hi => ?_
  simp only [List.mem_cons, List.not_mem_nil, or_false] at hi
  obtain ⟨es_, cl_, hM_⟩ := hs.obj
  rcases hi with rfl | rfl
  · exact fragOp good.tbl (bx_op8 (M := M) (mr := [([ii 0, ii 0, ii 0], some t_impl_Spot)])) rfl (by rintro _ _ ⟨rfl, rfl⟩; rfl) ha hm hM_ (fun σ_ tm_ mem_ a_ w_ hk_ ha_ hm_ hM2_ => by obtain ⟨rfl, rfl⟩ := hk_; exact bx_st_0_1_2_4_5_7_8_9 hQ rfl ha_ hm_ (hs.keep (hM2_.trans hM_.symm)) hlo)
  · exact fragOp good.tbl (bx_op10 (M := M) (mr := [([ii 0, ii 0, ii 0], some t_impl_Spot)])) rfl (by rintro _ _ ⟨rfl, rfl⟩; rfl) ha hm hM_ (fun σ_ tm_ mem_ a_ w_ hk_ ha_ hm_ hM2_ => by obtain ⟨rfl, rfl⟩ := hk_; exact bx_st_0_1_2_4_5_7_9_10 hQ rfl ha_ hm_ (hs.keep (hM2_.trans hM_.symm)) hlo)

theorem bx_st_0_1_2_4_5_9_10 {ρ : List Nat} {M : Nat} {a : Act} {w : World} {l : Array Bool} (hl : l = #[true, true, true, true, true, true, true, false, false, true, true, false]) (ha : TmAt ρ (bxS (ii (sizeF (volF k.a k.b k.c k.d k.e k.f k.g k.h k.i))) (.slice (some ⟨1, 0, none⟩) 1 1) wild (v9 k.a k.b k.c k.d k.e k.f k.g k.h k.i) (ii (volF k.a k.b k.c k.d k.e k.f k.g k.h k.i)) (ii (sizeF (volF k.a k.b k.c k.d k.e k.f k.g k.h k.i))) (v3 0 0 0) (.slice (some ⟨1, 0, none⟩) 1 1) (.map (some M)) (v3 0 0 0) wild) a) (hm : MemAt w0 ρ [([ii k.a, ii k.b, ii k.c, ii k.d, ii k.e, ii k.f, ii k.g, ii k.h, ii k.i], some t_impl_Cone), ([ii 0, ii 0, ii 0], some t_impl_Spot)] w) (hs : SeenAt w M []) (hlo : w0.w.heap.size ≤ M) : wpAny Tryz.prog .any bxO1.toArray (noPan Q) 3 l a w := by
  subst hl
  refine wpAny_all (rs := [7]) (by decide +kernel) (by simp) fun i hi => ?_
  simp only [List.mem_cons, List.not_mem_nil, or_false] at hi
  obtain ⟨es_, cl_, hM_⟩ := hs.obj
  subst hi
  · exact bx_put ha hm hs hlo fun w2 hm2 hs2 => bx_st_0_1_2_4_5_7_9_10 hQ rfl ha hm2 hs2 hlo

theorem bx_st_0_1_2_5_7_8_9 {ρ : List Nat} {M : Nat} {a : Act} {w : World} {l : Array Bool} (hl : l = #[true, true, true, true, false, true, true, true, true, true, false, false]) (ha : TmAt ρ (bxS (ii (sizeF (volF k.a k.b k.c k.d k.e k.f k.g k.h k.i))) wild wild (v9 k.a k.b k.c k.d k.e k.f k.g k.h k.i) (ii (volF k.a k.b k.c k.d k.e k.f k.g k.h k.i)) (ii (sizeF (volF k.a k.b k.c k.d k.e k.f k.g k.h k.i))) (v3 0 0 0) wild (.map (some M)) (v3 0 0 0) (.map (some M))) a) (hm : MemAt w0 ρ [([ii k.a, ii k.b, ii k.c, ii k.d, ii k.e, ii k.f, ii k.g, ii k.h, ii k.i], some t_impl_Cone)] w) (hs : SeenAt w M [(0, 0, 0)]) (hlo : w0.w.heap.size ≤ M) : wpAny Tryz.prog .any bxO1.toArray (noPan Q) 3 l a w := by
  subst hl
  refine wpAny_all (rs := [4]) (by decide +kernel) (by simp) fun i hi => ?_
  simp only [List.mem_cons, List.not_mem_nil, or_false] at hi
  obtain ⟨es_, cl_, hM_⟩ := hs.obj
  subst hi
  · exact fragOp good.tbl (bx_op4 (M := M) (mr := [])) rfl (by rintro _ _ ⟨rfl, rfl⟩; rfl) ha hm hM_ (fun σ_ tm_ mem_ a_ w_ hk_ ha_ hm_ hM2_ => by obtain ⟨rfl, rfl⟩ := hk_; exact bx_st_0_1_2_4_5_7_8_9 hQ rfl ha_ hm_ (hs.keep (hM2_.trans hM_.symm)) hlo)

theorem bx_st_0_1_2_4_5_7 {ρ : List Nat} {M : Nat} {a : Act} {w : World} {l : Array Bool} (hl : l = #[true, true, true, true, true, true, true, true, false, false, false, false]) (ha : TmAt ρ (bxS wild wild wild (v9 k.a k.b k.c k.d k.e k.f k.g k.h k.i) (ii (volF k.a k.b k.c k.d k.e k.f k.g k.h k.i)) (ii (sizeF (volF k.a k.b k.c k.d k.e k.f k.g k.h k.i))) (v3 0 0 0) (.slice (some ⟨1, 0, none⟩) 1 1) (.map (some M)) (v3 0 0 0) wild) a) (hm : MemAt w0 ρ [([ii k.a, ii k.b, ii k.c, ii k.d, ii k.e, ii k.f, ii k.g, ii k.h, ii k.i], some t_impl_Cone), ([ii 0, ii 0, ii 0], some t_impl_Spot)] w) (hs : SeenAt w M [(0, 0, 0)]) (hlo : w0.w.heap.size ≤ M) : wpAny Tryz.prog .any bxO1.toArray (noPan Q) 4 l a w := by
  subst hl
  refine wpAny_all (rs := [8, 9]) (by decide +kernel) (by simp) fun i hi => ?_
  simp only [List.mem_cons, List.not_mem_nil, or_false] at hi
  obtain ⟨es_, cl_, hM_⟩ := hs.obj
  rcases hi with rfl | rfl
  · exact fragOp good.tbl (bx_op8 (M := M) (mr := [([ii 0, ii 0, ii 0], some t_impl_Spot)])) rfl (by rintro _ _ ⟨rfl, rfl⟩; rfl) ha hm hM_ (fun σ_ tm_ mem_ a_ w_ hk_ ha_ hm_ hM2_ => by obtain ⟨rfl, rfl⟩ := hk_; exact bx_st_0_1_2_4_5_7_8 hQ rfl ha_ hm_ (hs.keep (hM2_.trans hM_.symm)) hlo)
  · exact fragOp good.tbl (bx_op9 (M := M) (mr := [([ii 0, ii 0, ii 0], some t_impl_Spot)])) rfl (by rintro _ _ ⟨rfl, rfl⟩; rfl) ha hm hM_ (fun σ_ tm_ mem_ a_ w_ hk_ ha_ hm_ hM2_ => by obtain ⟨rfl, rfl⟩ := hk_; exact bx_st_0_1_2_4_5_7_9 hQ rfl ha_ hm_ (hs.keep (hM2_.trans hM_.symm)) hlo)

theorem bx_st_0_1_2_4_5_9 {ρ : List Nat} {M : Nat} {a : Act} {w : World} {l : Array Bool} (hl : l = #[true, true, true, true, true, true, true, false, false, true, false, false]) (ha : TmAt ρ (bxS (ii (sizeF (volF k.a k.b k.c k.d k.e k.f k.g k.h k.i))) wild wild (v9 k.a k.b k.c k.d k.e k.f k.g k.h k.i) (ii (volF k.a k.b k.c k.d k.e k.f k.g k.h k.i)) (ii (sizeF (volF k.a k.b k.c k.d k.e k.f k.g k.h k.i))) (v3 0 0 0) (.slice (some ⟨1, 0, none⟩) 1 1) (.map (some M)) (v3 0 0 0) wild) a) (hm : MemAt w0 ρ [([ii k.a, ii k.b, ii k.c, ii k.d, ii k.e, ii k.f, ii k.g, ii k.h, ii k.i], some t_impl_Cone), ([ii 0, ii 0, ii 0], some t_impl_Spot)] w) (hs : SeenAt w M []) (hlo : w0.w.heap.size ≤ M) : wpAny Tryz.prog .any bxO1.toArray (noPan Q) 4 l a w := by
  subst hl
  refine wpAny_all (rs := [7, 10]) (by decide +kernel) (by simp) fun i hi => ?_
  simp only [List.mem_cons, List.not_mem_nil, or_false] at hi
  obtain ⟨es_, cl_, hM_⟩ := hs.obj
  rcases hi with rfl | rfl
  · exact bx_put ha hm hs hlo fun w2 hm2 hs2 => bx_st_0_1_2_4_5_7_9 hQ rfl ha hm2 hs2 hlo
  · exact fragOp good.tbl (bx_op10 (M := M) (mr := [([ii 0, ii 0, ii 0], some t_impl_Spot)])) rfl (by rintro _ _ ⟨rfl, rfl⟩; rfl) ha hm hM_ (fun σ_ tm_ mem_ a_ w_ hk_ ha_ hm_ hM2_ => by obtain ⟨rfl, rfl⟩ := hk_; exact bx_st_0_1_2_4_5_9_10 hQ rfl ha_ hm_ (hs.keep (hM2_.trans hM_.symm)) hlo)

theorem bx_st_0_1_2_4_9_10 {ρ : List Nat} {a : Act} {w : World} {l : Array Bool} (hl : l = #[true, true, true, true, true, false, true, false, false, true, true, false]) (ha : TmAt ρ (bxS (ii (sizeF (volF k.a k.b k.c k.d k.e k.f k.g k.h k.i))) (.slice (some ⟨1, 0, none⟩) 1 1) wild (v9 k.a k.b k.c k.d k.e k.f k.g k.h k.i) (ii (volF k.a k.b k.c k.d k.e k.f k.g k.h k.i)) (ii (sizeF (volF k.a k.b k.c k.d k.e k.f k.g k.h k.i))) (v3 0 0 0) (.slice (some ⟨1, 0, none⟩) 1 1) wild (v3 0 0 0) wild) a) (hm : MemAt w0 ρ [([ii k.a, ii k.b, ii k.c, ii k.d, ii k.e, ii k.f, ii k.g, ii k.h, ii k.i], some t_impl_Cone), ([ii 0, ii 0, ii 0], some t_impl_Spot)] w) : wpAny Tryz.prog .any bxO1.toArray (noPan Q) 4 l a w := by
  subst hl
  refine wpAny_all (rs := [5]) (by decide +kernel) (by simp) fun i hi => ?_
  simp only [List.mem_cons, List.not_mem_nil, or_false] at hi
  subst hi
  · exact bx_make ha hm fun M2 a2 w2 ha2 hm2 hs2 hlo2 => bx_st_0_1_2_4_5_9_10 hQ rfl ha2 hm2 hs2 hlo2

theorem bx_st_0_1_2_5_7_8 {ρ : List Nat} {M : Nat} {a : Act} {w : World} {l : Array Bool} (hl : l = #[true, true, true, true, false, true, true, true, true, false, false, false]) (ha : TmAt ρ (bxS wild wild wild (v9 k.a k.b k.c k.d k.e k.f k.g k.h k.i) (ii (volF k.a k.b k.c k.d k.e k.f k.g k.h k.i)) (ii (sizeF (volF k.a k.b k.c k.d k.e k.f k.g k.h k.i))) (v3 0 0 0) wild (.map (some M)) (v3 0 0 0) (.map (some M))) a) (hm : MemAt w0 ρ [([ii k.a, ii k.b, ii k.c, ii k.d, ii k.e, ii k.f, ii k.g, ii k.h, ii k.i], some t_impl_Cone)] w) (hs : SeenAt w M [(0, 0, 0)]) (hlo : w0.w.heap.size ≤ M) : wpAny Tryz.prog .any bxO1.toArray (noPan Q) 4 l a w := by
  subst hl
  refine wpAny_all (rs := [4, 9]) (by decide +kernel) (by simp) fun i hi => ?_
  simp only [List.mem_cons, List.not_mem_nil, or_false] at hi
  obtain ⟨es_, cl_, hM_⟩ := hs.obj
  rcases hi with rfl | rfl
  · exact fragOp good.tbl (bx_op4 (M := M) (mr := [])) rfl (by rintro _ _ ⟨rfl, rfl⟩; rfl) ha hm hM_ (fun σ_ tm_ mem_ a_ w_ hk_ ha_ hm_ hM2_ => by obtain ⟨rfl, rfl⟩ := hk_; exact bx_st_0_1_2_4_5_7_8 hQ rfl ha_ hm_ (hs.keep (hM2_.trans hM_.symm)) hlo)
  · exact fragOp good.tbl (bx_op9 (M := M) (mr := [])) rfl (by rintro _ _ ⟨rfl, rfl⟩; rfl) ha hm hM_ (fun σ_ tm_ mem_ a_ w_ hk_ ha_ hm_ hM2_ => by obtain ⟨rfl, rfl⟩ := hk_; exact bx_st_0_1_2_5_7_8_9 hQ rfl ha_ hm_ (hs.keep (hM2_.trans hM_.symm)) hlo)

theorem bx_st_0_1_2_5_7_9 {ρ : List Nat} {M : Nat} {a : Act} {w : World} {l : Array Bool} (hl : l = #[true, true, true, true, false, true, true, true, false, true, false, false]) (ha : TmAt ρ (bxS (ii (sizeF (volF k.a k.b k.c k.d k.e k.f k.g k.h k.i))) wild wild (v9 k.a k.b k.c k.d k.e k.f k.g k.h k.i) (ii (volF k.a k.b k.c k.d k.e k.f k.g k.h k.i)) (ii (sizeF (volF k.a k.b k.c k.d k.e k.f k.g k.h k.i))) (v3 0 0 0) wild (.map (some M)) (v3 0 0 0) wild) a) (hm : MemAt w0 ρ [([ii k.a, ii k.b, ii k.c, ii k.d, ii k.e, ii k.f, ii k.g, ii k.h, ii k.i], some t_impl_Cone)] w) (hs : SeenAt w M [(0, 0, 0)]) (hlo : w0.w.heap.size ≤ M) : wpAny Tryz.prog .any bxO1.toArray (noPan Q) 4 l a w := by
  subst hl
  refine wpAny_all (rs := [4, 8]) (by decide +kernel) (by simp) fun i hi => ?_
  simp only [List.mem_cons, List.not_mem_nil, or_false] at hi
  obtain ⟨es_, cl_, hM_⟩ := hs.obj
  rcases hi with rfl | rfl
  · exact fragOp good.tbl (bx_op4 (M := M) (mr := [])) rfl (by rintro _ _ ⟨rfl, rfl⟩; rfl) ha hm hM_ (fun σ_ tm_ mem_ a_ w_ hk_ ha_ hm_ hM2_ => by obtain ⟨rfl, rfl⟩ := hk_; exact bx_st_0_1_2_4_5_7_9 hQ rfl ha_ hm_ (hs.keep (hM2_.trans hM_.symm)) hlo)
  · exact fragOp good.tbl (bx_op8 (M := M) (mr := [])) rfl (by rintro _ _ ⟨rfl, rfl⟩; rfl) ha hm hM_ (fun σ_ tm_ mem_ a_ w_ hk_ ha_ hm_ hM2_ => by obtain ⟨rfl, rfl⟩ := hk_; exact bx_st_0_1_2_5_7_8_9 hQ rfl ha_ hm_ (hs.keep (hM2_.trans hM_.symm)) hlo)

theorem bx_st_0_1_4_5_7_8 {ρ : List Nat} {M : Nat} {a : Act} {w : World} {l : Array Bool} (hl : l = #[true, true, false, true, true, true, true, true, true, false, false, false]) (ha : TmAt ρ (bxS wild wild wild (v9 k.a k.b k.c k.d k.e k.f k.g k.h k.i) (ii (volF k.a k.b k.c k.d k.e k.f k.g k.h k.i)) wild (v3 0 0 0) (.slice (some ⟨1, 0, none⟩) 1 1) (.map (some M)) (v3 0 0 0) (.map (some M))) a) (hm : MemAt w0 ρ [([ii k.a, ii k.b, ii k.c, ii k.d, ii k.e, ii k.f, ii k.g, ii k.h, ii k.i], some t_impl_Cone), ([ii 0, ii 0, ii 0], some t_impl_Spot)] w) (hs : SeenAt w M [(0, 0, 0)]) (hlo : w0.w.heap.size ≤ M) : wpAny Tryz.prog .any bxO1.toArray (noPan Q) 4 l a w := by
  subst hl
  refine wpAny_all (rs := [2]) (by decide +kernel) (by simp) fun i hi => ?_
  simp only [List.mem_cons, List.not_mem_nil, or_false] at hi
  obtain ⟨es_, cl_, hM_⟩ := hs.obj
  subst hi
  · exact fragOp good.tbl (bx_op2 (M := M) (mr := [([ii 0, ii 0, ii 0], some t_impl_Spot)])) rfl (by rintro _ _ ⟨rfl, rfl⟩; rfl) ha hm hM_ (fun σ_ tm_ mem_ a_ w_ hk_ ha_ hm_ hM2_ => by obtain ⟨rfl, rfl⟩ := hk_; exact bx_st_0_1_2_4_5_7_8 hQ rfl ha_ hm_ (hs.keep (hM2_.trans hM_.symm)) hlo)

theorem bx_st_0_1_2_4_5 {ρ : List Nat} {M : Nat} {a : Act} {w : World} {l : Array Bool} (hl : l = #[true, true, true, true, true, true, true, false, false, false, false, false]) (ha : TmAt ρ (bxS wild wild wild (v9 k.a k.b k.c k.d k.e k.f k.g k.h k.i) (ii (volF k.a k.b k.c k.d k.e k.f k.g k.h k.i)) (ii (sizeF (volF k.a k.b k.c k.d k.e k.f k.g k.h k.i))) (v3 0 0 0) (.slice (some ⟨1, 0, none⟩) 1 1) (.map (some M)) (v3 0 0 0) wild) a) (hm : MemAt w0 ρ [([ii k.a, ii k.b, ii k.c, ii k.d, ii k.e, ii k.f, ii k.g, ii k.h, ii k.i], some t_impl_Cone), ([ii 0, ii 0, ii 0], some t_impl_Spot)] w) (hs : SeenAt w M []) (hlo : w0.w.heap.size ≤ M) : wpAny Tryz.prog .any bxO1.toArray (noPan Q) 5 l a w := by
  subst hl
  refine wpAny_all (rs := [7, 9]) (by decide +kernel) (by simp) fun i hi => ?_
  simp only [List.mem_cons, List.not_mem_nil, or_false] at hi
  obtain ⟨es_, cl_, hM_⟩ := hs.obj
  rcases hi with rfl | rfl
  · exact bx_put ha hm hs hlo fun w2 hm2 hs2 => bx_st_0_1_2_4_5_7 hQ rfl ha hm2 hs2 hlo
  · exact fragOp good.tbl (bx_op9 (M := M) (mr := [([ii 0, ii 0, ii 0], some t_impl_Spot)])) rfl (by rintro _ _ ⟨rfl, rfl⟩; rfl) ha hm hM_ (fun σ_ tm_ mem_ a_ w_ hk_ ha_ hm_ hM2_ => by obtain ⟨rfl, rfl⟩ := hk_; exact bx_st_0_1_2_4_5_9 hQ rfl ha_ hm_ (hs.keep (hM2_.trans hM_.symm)) hlo)

theorem bx_st_0_1_2_4_9 {ρ : List Nat} {a : Act} {w : World} {l : Array Bool} (hl : l = #[true, true, true, true, true, false, true, false, false, true, false, false]) (ha : TmAt ρ (bxS (ii (sizeF (volF k.a k.b k.c k.d k.e k.f k.g k.h k.i))) wild wild (v9 k.a k.b k.c k.d k.e k.f k.g k.h k.i) (ii (volF k.a k.b k.c k.d k.e k.f k.g k.h k.i)) (ii (sizeF (volF k.a k.b k.c k.d k.e k.f k.g k.h k.i))) (v3 0 0 0) (.slice (some ⟨1, 0, none⟩) 1 1) wild (v3 0 0 0) wild) a) (hm : MemAt w0 ρ [([ii k.a, ii k.b, ii k.c, ii k.d, ii k.e, ii k.f, ii k.g, ii k.h, ii k.i], some t_impl_Cone), ([ii 0, ii 0, ii 0], some t_impl_Spot)] w) : wpAny Tryz.prog .any bxO1.toArray (noPan Q) 5 l a w := by
  subst hl
  refine wpAny_all (rs := [5, 10]) (by decide +kernel) (by simp) fun i hi => ?_
  simp only [List.mem_cons, List.not_mem_nil, or_false] at hi
  rcases hi with rfl | rfl
  · exact bx_make ha hm fun M2 a2 w2 ha2 hm2 hs2 hlo2 => bx_st_0_1_2_4_5_9 hQ rfl ha2 hm2 hs2 hlo2
  · exact pt_op good.tbl (bx_op10 (M := 0) (mr := [([ii 0, ii 0, ii 0], some t_impl_Spot)])) ha hm (fun σ_ tm_ mem_ a_ w_ hk_ ha_ hm_ => by obtain ⟨rfl, rfl⟩ := hk_; exact bx_st_0_1_2_4_9_10 hQ rfl ha_ hm_)

theorem bx_st_0_1_2_5_7 {ρ : List Nat} {M : Nat} {a : Act} {w : World} {l : Array Bool} (hl : l = #[true, true, true, true, false, true, true, true, false, false, false, false]) (ha : TmAt ρ (bxS wild wild wild (v9 k.a k.b k.c k.d k.e k.f k.g k.h k.i) (ii (volF k.a k.b k.c k.d k.e k.f k.g k.h k.i)) (ii (sizeF (volF k.a k.b k.c k.d k.e k.f k.g k.h k.i))) (v3 0 0 0) wild (.map (some M)) (v3 0 0 0) wild) a) (hm : MemAt w0 ρ [([ii k.a, ii k.b, ii k.c, ii k.d, ii k.e, ii k.f, ii k.g, ii k.h, ii k.i], some t_impl_Cone)] w) (hs : SeenAt w M [(0, 0, 0)]) (hlo : w0.w.heap.size ≤ M) : wpAny Tryz.prog .any bxO1.toArray (noPan Q) 5 l a w := by
  subst hl
  refine wpAny_all (rs := [4, 8, 9]) (by decide +kernel) (by simp) fun i hi => ?_
  simp only [List.mem_cons, List.not_mem_nil, or_false] at hi
  obtain ⟨es_, cl_, hM_⟩ := hs.obj
  rcases hi with rfl | rfl | rfl
  · exact fragOp good.tbl (bx_op4 (M := M) (mr := [])) rfl (by rintro _ _ ⟨rfl, rfl⟩; rfl) ha hm hM_ (fun σ_ tm_ mem_ a_ w_ hk_ ha_ hm_ hM2_ => by obtain ⟨rfl, rfl⟩ := hk_; exact bx_st_0_1_2_4_5_7 hQ rfl ha_ hm_ (hs.keep (hM2_.trans hM_.symm)) hlo)
  · exact fragOp good.tbl (bx_op8 (M := M) (mr := [])) rfl (by rintro _ _ ⟨rfl, rfl⟩; rfl) ha hm hM_ (fun σ_ tm_ mem_ a_ w_ hk_ ha_ hm_ hM2_ => by obtain ⟨rfl, rfl⟩ := hk_; exact bx_st_0_1_2_5_7_8 hQ rfl ha_ hm_ (hs.keep (hM2_.trans hM_.symm)) hlo)
  · exact fragOp good.tbl (bx_op9 (M := M) (mr := [])) rfl (by rintro _ _ ⟨rfl, rfl⟩; rfl) ha hm hM_ (fun σ_ tm_ mem_ a_ w_ hk_ ha_ hm_ hM2_ => by obtain ⟨rfl, rfl⟩ := hk_; exact bx_st_0_1_2_5_7_9 hQ rfl ha_ hm_ (hs.keep (hM2_.trans hM_.symm)) hlo)

theorem bx_st_0_1_2_5_9 {ρ : List Nat} {M : Nat} {a : Act} {w : World} {l : Array Bool} (hl : l = #[true, true, true, true, false, true, true, false, false, true, false, false]) (ha : TmAt ρ (bxS (ii (sizeF (volF k.a k.b k.c k.d k.e k.f k.g k.h k.i))) wild wild (v9 k.a k.b k.c k.d k.e k.f k.g k.h k.i) (ii (volF k.a k.b k.c k.d k.e k.f k.g k.h k.i)) (ii (sizeF (volF k.a k.b k.c k.d k.e k.f k.g k.h k.i))) (v3 0 0 0) wild (.map (some M)) (v3 0 0 0) wild) a) (hm : MemAt w0 ρ [([ii k.a, ii k.b, ii k.c, ii k.d, ii k.e, ii k.f, ii k.g, ii k.h, ii k.i], some t_impl_Cone)] w) (hs : SeenAt w M []) (hlo : w0.w.heap.size ≤ M) : wpAny Tryz.prog .any bxO1.toArray (noPan Q) 5 l a w := by
  subst hl
  refine wpAny_all (rs := [4, 7]) (by decide +kernel) (by simp) fun i hi => ?_
  simp only [List.mem_cons, List.not_mem_nil, or_false] at hi
  obtain ⟨es_, cl_, hM_⟩ := hs.obj
  rcases hi with rfl | rfl
  · exact fragOp good.tbl (bx_op4 (M := M) (mr := [])) rfl (by rintro _ _ ⟨rfl, rfl⟩; rfl) ha hm hM_ (fun σ_ tm_ mem_ a_ w_ hk_ ha_ hm_ hM2_ => by obtain ⟨rfl, rfl⟩ := hk_; exact bx_st_0_1_2_4_5_9 hQ rfl ha_ hm_ (hs.keep (hM2_.trans hM_.symm)) hlo)
  · exact bx_put ha hm hs hlo fun w2 hm2 hs2 => bx_st_0_1_2_5_7_9 hQ rfl ha hm2 hs2 hlo

theorem bx_st_0_1_4_5_7 {ρ : List Nat} {M : Nat} {a : Act} {w : World} {l : Array Bool} (hl : l = #[true, true, false, true, true, true, true, true, false, false, false, false]) (ha : TmAt ρ (bxS wild wild wild (v9 k.a k.b k.c k.d k.e k.f k.g k.h k.i) (ii (volF k.a k.b k.c k.d k.e k.f k.g k.h k.i)) wild (v3 0 0 0) (.slice (some ⟨1, 0, none⟩) 1 1) (.map (some M)) (v3 0 0 0) wild) a) (hm : MemAt w0 ρ [([ii k.a, ii k.b, ii k.c, ii k.d, ii k.e, ii k.f, ii k.g, ii k.h, ii k.i], some t_impl_Cone), ([ii 0, ii 0, ii 0], some t_impl_Spot)] w) (hs : SeenAt w M [(0, 0, 0)]) (hlo : w0.w.heap.size ≤ M) : wpAny Tryz.prog .any bxO1.toArray (noPan Q) 5 l a w := by
  subst hl
  refine wpAny_all (rs := [2, 8]) (by decide +kernel) (by simp) fun i hi => ?_
  simp only [List.mem_cons, List.not_mem_nil, or_false] at hi
  obtain ⟨es_, cl_, hM_⟩ := hs.obj
  rcases hi with rfl | rfl
  · exact fragOp good.tbl (bx_op2 (M := M) (mr := [([ii 0, ii 0, ii 0], some t_impl_Spot)])) rfl (by rintro _ _ ⟨rfl, rfl⟩; rfl) ha hm hM_ (fun σ_ tm_ mem_ a_ w_ hk_ ha_ hm_ hM2_ => by obtain ⟨rfl, rfl⟩ := hk_; exact bx_st_0_1_2_4_5_7 hQ rfl ha_ hm_ (hs.keep (hM2_.trans hM_.symm)) hlo)
  · exact fragOp good.tbl (bx_op8 (M := M) (mr := [([ii 0, ii 0, ii 0], some t_impl_Spot)])) rfl (by rintro _ _ ⟨rfl, rfl⟩; rfl) ha hm hM_ (fun σ_ tm_ mem_ a_ w_ hk_ ha_ hm_ hM2_ => by obtain ⟨rfl, rfl⟩ := hk_; exact bx_st_0_1_4_5_7_8 hQ rfl ha_ hm_ (hs.keep (hM2_.trans hM_.symm)) hlo)

theorem bx_st_0_1_5_7_8 {ρ : List Nat} {M : Nat} {a : Act} {w : World} {l : Array Bool} (hl : l = #[true, true, false, true, false, true, true, true, true, false, false, false]) (ha : TmAt ρ (bxS wild wild wild (v9 k.a k.b k.c k.d k.e k.f k.g k.h k.i) (ii (volF k.a k.b k.c k.d k.e k.f k.g k.h k.i)) wild (v3 0 0 0) wild (.map (some M)) (v3 0 0 0) (.map (some M))) a) (hm : MemAt w0 ρ [([ii k.a, ii k.b, ii k.c, ii k.d, ii k.e, ii k.f, ii k.g, ii k.h, ii k.i], some t_impl_Cone)] w) (hs : SeenAt w M [(0, 0, 0)]) (hlo : w0.w.heap.size ≤ M) : wpAny Tryz.prog .any bxO1.toArray (noPan Q) 5 l a w := by
  subst hl
  refine wpAny_all (rs := [2, 4]) (by decide +kernel) (by simp) fun i hi => ?_
  simp only [List.mem_cons, List.not_mem_nil, or_false] at hi
  obtain ⟨es_, cl_, hM_⟩ := hs.obj
  rcases hi with rfl | rfl
  · exact fragOp good.tbl (bx_op2 (M := M) (mr := [])) rfl (by rintro _ _ ⟨rfl, rfl⟩; rfl) ha hm hM_ (fun σ_ tm_ mem_ a_ w_ hk_ ha_ hm_ hM2_ => by obtain ⟨rfl, rfl⟩ := hk_; exact bx_st_0_1_2_5_7_8 hQ rfl ha_ hm_ (hs.keep (hM2_.trans hM_.symm)) hlo)
  · exact fragOp good.tbl (bx_op4 (M := M) (mr := [])) rfl (by rintro _ _ ⟨rfl, rfl⟩; rfl) ha hm hM_ (fun σ_ tm_ mem_ a_ w_ hk_ ha_ hm_ hM2_ => by obtain ⟨rfl, rfl⟩ := hk_; exact bx_st_0_1_4_5_7_8 hQ rfl ha_ hm_ (hs.keep (hM2_.trans hM_.symm)) hlo)

theorem bx_st_0_4_5_7_8 {ρ : List Nat} {M : Nat} {a : Act} {w : World} {l : Array Bool} (hl : l = #[true, false, false, true, true, true, true, true, true, false, false, false]) (ha : TmAt ρ (bxS wild wild wild (v9 k.a k.b k.c k.d k.e k.f k.g k.h k.i) wild wild (v3 0 0 0) (.slice (some ⟨1, 0, none⟩) 1 1) (.map (some M)) (v3 0 0 0) (.map (some M))) a) (hm : MemAt w0 ρ [([ii k.a, ii k.b, ii k.c, ii k.d, ii k.e, ii k.f, ii k.g, ii k.h, ii k.i], some t_impl_Cone), ([ii 0, ii 0, ii 0], some t_impl_Spot)] w) (hs : SeenAt w M [(0, 0, 0)]) (hlo : w0.w.heap.size ≤ M) : wpAny Tryz.prog .any bxO1.toArray (noPan Q) 5 l a w := by
  subst hl
  refine wpAny_all (rs := [1]) (by decide +kernel) (by simp) fun i hi => ?_
  simp only [List.mem_cons, List.not_mem_nil, or_false] at hi
  obtain ⟨es_, cl_, hM_⟩ := hs.obj
  subst hi
  · exact fragOp good.tbl (bx_op1 (M := M) (mr := [([ii 0, ii 0, ii 0], some t_impl_Spot)])) rfl (by rintro _ _ ⟨rfl, rfl⟩; rfl) ha hm hM_ (fun σ_ tm_ mem_ a_ w_ hk_ ha_ hm_ hM2_ => by obtain ⟨rfl, rfl⟩ := hk_; exact bx_st_0_1_4_5_7_8 hQ rfl ha_ hm_ (hs.keep (hM2_.trans hM_.symm)) hlo)

theorem bx_st_0_1_2_4 {ρ : List Nat} {a : Act} {w : World} {l : Array Bool} (hl : l = #[true, true, true, true, true, false, true, false, false, false, false, false]) (ha : TmAt ρ (bxS wild wild wild (v9 k.a k.b k.c k.d k.e k.f k.g k.h k.i) (ii (volF k.a k.b k.c k.d k.e k.f k.g k.h k.i)) (ii (sizeF (volF k.a k.b k.c k.d k.e k.f k.g k.h k.i))) (v3 0 0 0) (.slice (some ⟨1, 0, none⟩) 1 1) wild (v3 0 0 0) wild) a) (hm : MemAt w0 ρ [([ii k.a, ii k.b, ii k.c, ii k.d, ii k.e, ii k.f, ii k.g, ii k.h, ii k.i], some t_impl_Cone), ([ii 0, ii 0, ii 0], some t_impl_Spot)] w) : wpAny Tryz.prog .any bxO1.toArray (noPan Q) 6 l a w := by
  subst hl
  refine wpAny_all (rs := [5, 9]) (by decide +kernel) (by simp) fun i hi => ?_
  simp only [List.mem_cons, List.not_mem_nil, or_false] at hi
  rcases hi with rfl | rfl
  · exact bx_make ha hm fun M2 a2 w2 ha2 hm2 hs2 hlo2 => bx_st_0_1_2_4_5 hQ rfl ha2 hm2 hs2 hlo2
  · exact pt_op good.tbl (bx_op9 (M := 0) (mr := [([ii 0, ii 0, ii 0], some t_impl_Spot)])) ha hm (fun σ_ tm_ mem_ a_ w_ hk_ ha_ hm_ => by obtain ⟨rfl, rfl⟩ := hk_; exact bx_st_0_1_2_4_9 hQ rfl ha_ hm_)

theorem bx_st_0_1_2_5 {ρ : List Nat} {M : Nat} {a : Act} {w : World} {l : Array Bool} (hl : l = #[true, true, true, true, false, true, true, false, false, false, false, false]) (ha : TmAt ρ (bxS wild wild wild (v9 k.a k.b k.c k.d k.e k.f k.g k.h k.i) (ii (volF k.a k.b k.c k.d k.e k.f k.g k.h k.i)) (ii (sizeF (volF k.a k.b k.c k.d k.e k.f k.g k.h k.i))) (v3 0 0 0) wild (.map (some M)) (v3 0 0 0) wild) a) (hm : MemAt w0 ρ [([ii k.a, ii k.b, ii k.c, ii k.d, ii k.e, ii k.f, ii k.g, ii k.h, ii k.i], some t_impl_Cone)] w) (hs : SeenAt w M []) (hlo : w0.w.heap.size ≤ M) : wpAny Tryz.prog .any bxO1.toArray (noPan Q) 6 l a w := by
  subst hl
  refine wpAny_all (rs := [4, 7, 9]) (by decide +kernel) (by simp) fun i hi => ?_
  simp only [List.mem_cons, List.not_mem_nil, or_false] at hi
  obtain ⟨es_, cl_, hM_⟩ := hs.obj
  rcases hi with rfl | rfl | rfl
  · exact fragOp good.tbl (bx_op4 (M := M) (mr := [])) rfl (by rintro _ _ ⟨rfl, rfl⟩; rfl) ha hm hM_ (fun σ_ tm_ mem_ a_ w_ hk_ ha_ hm_ hM2_ => by obtain ⟨rfl, rfl⟩ := hk_; exact bx_st_0_1_2_4_5 hQ rfl ha_ hm_ (hs.keep (hM2_.trans hM_.symm)) hlo)
  · exact bx_put ha hm hs hlo fun w2 hm2 hs2 => bx_st_0_1_2_5_7 hQ rfl ha hm2 hs2 hlo
  · exact fragOp good.tbl (bx_op9 (M := M) (mr := [])) rfl (by rintro _ _ ⟨rfl, rfl⟩; rfl) ha hm hM_ (fun σ_ tm_ mem_ a_ w_ hk_ ha_ hm_ hM2_ => by obtain ⟨rfl, rfl⟩ := hk_; exact bx_st_0_1_2_5_9 hQ rfl ha_ hm_ (hs.keep (hM2_.trans hM_.symm)) hlo)

theorem bx_st_0_1_2_9 {ρ : List Nat} {a : Act} {w : World} {l : Array Bool} (hl : l = #[true, true, true, true, false, false, true, false, false, true, false, false]) (ha : TmAt ρ (bxS (ii (sizeF (volF k.a k.b k.c k.d k.e k.f k.g k.h k.i))) wild wild (v9 k.a k.b k.c k.d k.e k.f k.g k.h k.i) (ii (volF k.a k.b k.c k.d k.e k.f k.g k.h k.i)) (ii (sizeF (volF k.a k.b k.c k.d k.e k.f k.g k.h k.i))) (v3 0 0 0) wild wild (v3 0 0 0) wild) a) (hm : MemAt w0 ρ [([ii k.a, ii k.b, ii k.c, ii k.d, ii k.e, ii k.f, ii k.g, ii k.h, ii k.i], some t_impl_Cone)] w) : wpAny Tryz.prog .any bxO1.toArray (noPan Q) 6 l a w := by
  subst hl
  refine wpAny_all (rs := [4, 5]) (by decide +kernel) (by simp) fun i hi => ?_
  simp only [List.mem_cons, List.not_mem_nil, or_false] at hi
  rcases hi with rfl | rfl
  · exact pt_op good.tbl (bx_op4 (M := 0) (mr := [])) ha hm (fun σ_ tm_ mem_ a_ w_ hk_ ha_ hm_ => by obtain ⟨rfl, rfl⟩ := hk_; exact bx_st_0_1_2_4_9 hQ rfl ha_ hm_)
  · exact bx_make ha hm fun M2 a2 w2 ha2 hm2 hs2 hlo2 => bx_st_0_1_2_5_9 hQ rfl ha2 hm2 hs2 hlo2

theorem bx_st_0_1_4_5 {ρ : List Nat} {M : Nat} {a : Act} {w : World} {l : Array Bool} (hl : l = #[true, true, false, true, true, true, true, false, false, false, false, false]) (ha : TmAt ρ (bxS wild wild wild (v9 k.a k.b k.c k.d k.e k.f k.g k.h k.i) (ii (volF k.a k.b k.c k.d k.e k.f k.g k.h k.i)) wild (v3 0 0 0) (.slice (some ⟨1, 0, none⟩) 1 1) (.map (some M)) (v3 0 0 0) wild) a) (hm : MemAt w0 ρ [([ii k.a, ii k.b, ii k.c, ii k.d, ii k.e, ii k.f, ii k.g, ii k.h, ii k.i], some t_impl_Cone), ([ii 0, ii 0, ii 0], some t_impl_Spot)] w) (hs : SeenAt w M []) (hlo : w0.w.heap.size ≤ M) : wpAny Tryz.prog .any bxO1.toArray (noPan Q) 6 l a w := by
  subst hl
  refine wpAny_all (rs := [2, 7]) (by decide +kernel) (by simp) fun i hi => ?_
  simp only [List.mem_cons, List.not_mem_nil, or_false] at hi
  obtain ⟨es_, cl_, hM_⟩ := hs.obj
  rcases hi with rfl | rfl
  · exact fragOp good.tbl (bx_op2 (M := M) (mr := [([ii 0, ii 0, ii 0], some t_impl_Spot)])) rfl (by rintro _ _ ⟨rfl, rfl⟩; rfl) ha hm hM_ (fun σ_ tm_ mem_ a_ w_ hk_ ha_ hm_ hM2_ => by obtain ⟨rfl, rfl⟩ := hk_; exact bx_st_0_1_2_4_5 hQ rfl ha_ hm_ (hs.keep (hM2_.trans hM_.symm)) hlo)
  · exact bx_put ha hm hs hlo fun w2 hm2 hs2 => bx_st_0_1_4_5_7 hQ rfl ha hm2 hs2 hlo

theorem bx_st_0_1_5_7 {ρ : List Nat} {M : Nat} {a : Act} {w : World} {l : Array Bool} (hl : l = #[true, true, false, true, false, true, true, true, false, false, false, false]) (ha : TmAt ρ (bxS wild wild wild (v9 k.a k.b k.c k.d k.e k.f k.g k.h k.i) (ii (volF k.a k.b k.c k.d k.e k.f k.g k.h k.i)) wild (v3 0 0 0) wild (.map (some M)) (v3 0 0 0) wild) a) (hm : MemAt w0 ρ [([ii k.a, ii k.b, ii k.c, ii k.d, ii k.e, ii k.f, ii k.g, ii k.h, ii k.i], some t_impl_Cone)] w) (hs : SeenAt w M [(0, 0, 0)]) (hlo : w0.w.heap.size ≤ M) : wpAny Tryz.prog .any bxO1.toArray (noPan Q) 6 l a w := by
  subst hl
  refine wpAny_all (rs := [2, 4, 8]) (by decide +kernel) (by simp) fun i hi => ?_
  simp only [List.mem_cons, List.not_mem_nil, or_false] at hi
  obtain ⟨es_, cl_, hM_⟩ := hs.obj
  rcases hi with rfl | rfl | rfl
  · exact fragOp good.tbl (bx_op2 (M := M) (mr := [])) rfl (by rintro _ _ ⟨rfl, rfl⟩; rfl) ha hm hM_ (fun σ_ tm_ mem_ a_ w_ hk_ ha_ hm_ hM2_ => by obtain ⟨rfl, rfl⟩ := hk_; exact bx_st_0_1_2_5_7 hQ rfl ha_ hm_ (hs.keep (hM2_.trans hM_.symm)) hlo)
  · exact fragOp good.tbl (bx_op4 (M := M) (mr := [])) rfl (by rintro _ _ ⟨rfl, rfl⟩; rfl) ha hm hM_ (fun σ_ tm_ mem_ a_ w_ hk_ ha_ hm_ hM2_ => by obtain ⟨rfl, rfl⟩ := hk_; exact bx_st_0_1_4_5_7 hQ rfl ha_ hm_ (hs.keep (hM2_.trans hM_.symm)) hlo)
  · exact fragOp good.tbl (bx_op8 (M := M) (mr := [])) rfl (by rintro _ _ ⟨rfl, rfl⟩; rfl) ha hm hM_ (fun σ_ tm_ mem_ a_ w_ hk_ ha_ hm_ hM2_ => by obtain ⟨rfl, rfl⟩ := hk_; exact bx_st_0_1_5_7_8 hQ rfl ha_ hm_ (hs.keep (hM2_.trans hM_.symm)) hlo)

theorem bx_st_0_4_5_7 {ρ : List Nat} {M : Nat} {a : Act} {w : World} {l : Array Bool} (hl : l = #[true, false, false, true, true, true, true, true, false, false, false, false]) (ha : TmAt ρ (bxS wild wild wild (v9 k.a k.b k.c k.d k.e k.f k.g k.h k.i) wild wild (v3 0 0 0) (.slice (some ⟨1, 0, none⟩) 1 1) (.map (some M)) (v3 0 0 0) wild) a) (hm : MemAt w0 ρ [([ii k.a, ii k.b, ii k.c, ii k.d, ii k.e, ii k.f, ii k.g, ii k.h, ii k.i], some t_impl_Cone), ([ii 0, ii 0, ii 0], some t_impl_Spot)] w) (hs : SeenAt w M [(0, 0, 0)]) (hlo : w0.w.heap.size ≤ M) : wpAny Tryz.prog .any bxO1.toArray (noPan Q) 6 l a w := by
  subst hl
  refine wpAny_all (rs := [1, 8]) (by decide +kernel) (by simp) fun i hi => ?_
  simp only [List.mem_cons, List.not_mem_nil, or_false] at hi
  obtain ⟨es_, cl_, hM_⟩ := hs.obj
  rcases hi with rfl | rfl
  · exact fragOp good.tbl (bx_op1 (M := M) (mr := [([ii 0, ii 0, ii 0], some t_impl_Spot)])) rfl (by rintro _ _ ⟨rfl, rfl⟩; rfl) ha hm hM_ (fun σ_ tm_ mem_ a_ w_ hk_ ha_ hm_ hM2_ => by obtain ⟨rfl, rfl⟩ := hk_; exact bx_st_0_1_4_5_7 hQ rfl ha_ hm_ (hs.keep (hM2_.trans hM_.symm)) hlo)
  · exact fragOp good.tbl (bx_op8 (M := M) (mr := [([ii 0, ii 0, ii 0], some t_impl_Spot)])) rfl (by rintro _ _ ⟨rfl, rfl⟩; rfl) ha hm hM_ (fun σ_ tm_ mem_ a_ w_ hk_ ha_ hm_ hM2_ => by obtain ⟨rfl, rfl⟩ := hk_; exact bx_st_0_4_5_7_8 hQ rfl ha_ hm_ (hs.keep (hM2_.trans hM_.symm)) hlo)

theorem bx_st_0_5_7_8 {ρ : List Nat} {M : Nat} {a : Act} {w : World} {l : Array Bool} (hl : l = #[true, false, false, true, false, true, true, true, true, false, false, false]) (ha : TmAt ρ (bxS wild wild wild (v9 k.a k.b k.c k.d k.e k.f k.g k.h k.i) wild wild (v3 0 0 0) wild (.map (some M)) (v3 0 0 0) (.map (some M))) a) (hm : MemAt w0 ρ [([ii k.a, ii k.b, ii k.c, ii k.d, ii k.e, ii k.f, ii k.g, ii k.h, ii k.i], some t_impl_Cone)] w) (hs : SeenAt w M [(0, 0, 0)]) (hlo : w0.w.heap.size ≤ M) : wpAny Tryz.prog .any bxO1.toArray (noPan Q) 6 l a w := by
  subst hl
  refine wpAny_all (rs := [1, 4]) (by decide +kernel) (by simp) fun i hi => ?_
  simp only [List.mem_cons, List.not_mem_nil, or_false] at hi
  obtain ⟨es_, cl_, hM_⟩ := hs.obj
  rcases hi with rfl | rfl
  · exact fragOp good.tbl (bx_op1 (M := M) (mr := [])) rfl (by rintro _ _ ⟨rfl, rfl⟩; rfl) ha hm hM_ (fun σ_ tm_ mem_ a_ w_ hk_ ha_ hm_ hM2_ => by obtain ⟨rfl, rfl⟩ := hk_; exact bx_st_0_1_5_7_8 hQ rfl ha_ hm_ (hs.keep (hM2_.trans hM_.symm)) hlo)
  · exact fragOp good.tbl (bx_op4 (M := M) (mr := [])) rfl (by rintro _ _ ⟨rfl, rfl⟩; rfl) ha hm hM_ (fun σ_ tm_ mem_ a_ w_ hk_ ha_ hm_ hM2_ => by obtain ⟨rfl, rfl⟩ := hk_; exact bx_st_0_4_5_7_8 hQ rfl ha_ hm_ (hs.keep (hM2_.trans hM_.symm)) hlo)

theorem bx_st_4_5_7_8 {ρ : List Nat} {M : Nat} {a : Act} {w : World} {l : Array Bool} (hl : l = #[false, false, false, true, true, true, true, true, true, false, false, false]) (ha : TmAt ρ (bxS wild wild wild wild wild wild (v3 0 0 0) (.slice (some ⟨1, 0, none⟩) 1 1) (.map (some M)) (v3 0 0 0) (.map (some M))) a) (hm : MemAt w0 ρ [([ii k.a, ii k.b, ii k.c, ii k.d, ii k.e, ii k.f, ii k.g, ii k.h, ii k.i], some t_impl_Cone), ([ii 0, ii 0, ii 0], some t_impl_Spot)] w) (hs : SeenAt w M [(0, 0, 0)]) (hlo : w0.w.heap.size ≤ M) : wpAny Tryz.prog .any bxO1.toArray (noPan Q) 6 l a w := by
  subst hl
  refine wpAny_all (rs := [0]) (by decide +kernel) (by simp) fun i hi => ?_
  simp only [List.mem_cons, List.not_mem_nil, or_false] at hi
  obtain ⟨es_, cl_, hM_⟩ := hs.obj
  subst hi
  · exact fragOp good.tbl (bx_op0 (M := M) (mr := [([ii 0, ii 0, ii 0], some t_impl_Spot)])) rfl (by rintro _ _ ⟨rfl, rfl⟩; rfl) ha hm hM_ (fun σ_ tm_ mem_ a_ w_ hk_ ha_ hm_ hM2_ => by obtain ⟨rfl, rfl⟩ := hk_; exact bx_st_0_4_5_7_8 hQ rfl ha_ hm_ (hs.keep (hM2_.trans hM_.symm)) hlo)

theorem bx_st_0_1_2 {ρ : List Nat} {a : Act} {w : World} {l : Array Bool} (hl : l = #[true, true, true, true, false, false, true, false, false, false, false, false]) (ha : TmAt ρ (bxS wild wild wild (v9 k.a k.b k.c k.d k.e k.f k.g k.h k.i) (ii (volF k.a k.b k.c k.d k.e k.f k.g k.h k.i)) (ii (sizeF (volF k.a k.b k.c k.d k.e k.f k.g k.h k.i))) (v3 0 0 0) wild wild (v3 0 0 0) wild) a) (hm : MemAt w0 ρ [([ii k.a, ii k.b, ii k.c, ii k.d, ii k.e, ii k.f, ii k.g, ii k.h, ii k.i], some t_impl_Cone)] w) : wpAny Tryz.prog .any bxO1.toArray (noPan Q) 7 l a w := by
  subst hl
  refine wpAny_all (rs := [4, 5, 9]) (by decide +kernel) (by simp) fun i hi => ?_
  simp only [List.mem_cons, List.not_mem_nil, or_false] at hi
  rcases hi with rfl | rfl | rfl
  · exact pt_op good.tbl (bx_op4 (M := 0) (mr := [])) ha hm (fun σ_ tm_ mem_ a_ w_ hk_ ha_ hm_ => by obtain ⟨rfl, rfl⟩ := hk_; exact bx_st_0_1_2_4 hQ rfl ha_ hm_)
  · exact bx_make ha hm fun M2 a2 w2 ha2 hm2 hs2 hlo2 => bx_st_0_1_2_5 hQ rfl ha2 hm2 hs2 hlo2
  · exact pt_op good.tbl (bx_op9 (M := 0) (mr := [])) ha hm (fun σ_ tm_ mem_ a_ w_ hk_ ha_ hm_ => by obtain ⟨rfl, rfl⟩ := hk_; exact bx_st_0_1_2_9 hQ rfl ha_ hm_)

theorem bx_st_0_1_4 {ρ : List Nat} {a : Act} {w : World} {l : Array Bool} (hl : l = #[true, true, false, true, true, false, true, false, false, false, false, false]) (ha : TmAt ρ (bxS wild wild wild (v9 k.a k.b k.c k.d k.e k.f k.g k.h k.i) (ii (volF k.a k.b k.c k.d k.e k.f k.g k.h k.i)) wild (v3 0 0 0) (.slice (some ⟨1, 0, none⟩) 1 1) wild (v3 0 0 0) wild) a) (hm : MemAt w0 ρ [([ii k.a, ii k.b, ii k.c, ii k.d, ii k.e, ii k.f, ii k.g, ii k.h, ii k.i], some t_impl_Cone), ([ii 0, ii 0, ii 0], some t_impl_Spot)] w) : wpAny Tryz.prog .any bxO1.toArray (noPan Q) 7 l a w := by
  subst hl
  refine wpAny_all (rs := [2, 5]) (by decide +kernel) (by simp) fun i hi => ?_
  simp only [List.mem_cons, List.not_mem_nil, or_false] at hi
  rcases hi with rfl | rfl
  · exact pt_op good.tbl (bx_op2 (M := 0) (mr := [([ii 0, ii 0, ii 0], some t_impl_Spot)])) ha hm (fun σ_ tm_ mem_ a_ w_ hk_ ha_ hm_ => by obtain ⟨rfl, rfl⟩ := hk_; exact bx_st_0_1_2_4 hQ rfl ha_ hm_)
  · exact bx_make ha hm fun M2 a2 w2 ha2 hm2 hs2 hlo2 => bx_st_0_1_4_5 hQ rfl ha2 hm2 hs2 hlo2

theorem bx_st_0_1_5 {ρ : List Nat} {M : Nat} {a : Act} {w : World} {l : Array Bool} (hl : l = #[true, true, false, true, false, true, true, false, false, false, false, false]) (ha : TmAt ρ (bxS wild wild wild (v9 k.a k.b k.c k.d k.e k.f k.g k.h k.i) (ii (volF k.a k.b k.c k.d k.e k.f k.g k.h k.i)) wild (v3 0 0 0) wild (.map (some M)) (v3 0 0 0) wild) a) (hm : MemAt w0 ρ [([ii k.a, ii k.b, ii k.c, ii k.d, ii k.e, ii k.f, ii k.g, ii k.h, ii k.i], some t_impl_Cone)] w) (hs : SeenAt w M []) (hlo : w0.w.heap.size ≤ M) : wpAny Tryz.prog .any bxO1.toArray (noPan Q) 7 l a w := by
  subst hl
  refine wpAny_all (rs := [2, 4, 7]) (by decide +kernel) (by simp) fun i hi => ?_
  simp only [List.mem_cons, List.not_mem_nil, or_false] at hi
  obtain ⟨es_, cl_, hM_⟩ := hs.obj
  rcases hi with rfl | rfl | rfl
  · exact fragOp good.tbl (bx_op2 (M := M) (mr := [])) rfl (by rintro _ _ ⟨rfl, rfl⟩; rfl) ha hm hM_ (fun σ_ tm_ mem_ a_ w_ hk_ ha_ hm_ hM2_ => by obtain ⟨rfl, rfl⟩ := hk_; exact bx_st_0_1_2_5 hQ rfl ha_ hm_ (hs.keep (hM2_.trans hM_.symm)) hlo)
  · exact fragOp good.tbl (bx_op4 (M := M) (mr := [])) rfl (by rintro _ _ ⟨rfl, rfl⟩; rfl) ha hm hM_ (fun σ_ tm_ mem_ a_ w_ hk_ ha_ hm_ hM2_ => by obtain ⟨rfl, rfl⟩ := hk_; exact bx_st_0_1_4_5 hQ rfl ha_ hm_ (hs.keep (hM2_.trans hM_.symm)) hlo)
  · exact bx_put ha hm hs hlo fun w2 hm2 hs2 => bx_st_0_1_5_7 hQ rfl ha hm2 hs2 hlo

theorem bx_st_0_4_5 {ρ : List Nat} {M : Nat} {a : Act} {w : World} {l : Array Bool} (hl : l = #[true, false, false, true, true, true, true, false, false, false, false, false]) (ha : TmAt ρ (bxS wild wild wild (v9 k.a k.b k.c k.d k.e k.f k.g k.h k.i) wild wild (v3 0 0 0) (.slice (some ⟨1, 0, none⟩) 1 1) (.map (some M)) (v3 0 0 0) wild) a) (hm : MemAt w0 ρ [([ii k.a, ii k.b, ii k.c, ii k.d, ii k.e, ii k.f, ii k.g, ii k.h, ii k.i], some t_impl_Cone), ([ii 0, ii 0, ii 0], some t_impl_Spot)] w) (hs : SeenAt w M []) (hlo : w0.w.heap.size ≤ M) : wpAny Tryz.prog .any bxO1.toArray (noPan Q) 7 l a w := by
  subst hl
  refine wpAny_all (rs := [1, 7]) (by decide +kernel) (by simp) fun i hi => ?_
  simp only [List.mem_cons, List.not_mem_nil, or_false] at hi
  obtain ⟨es_, cl_, hM_⟩ := hs.obj
  rcases hi with rfl | rfl
  · exact fragOp good.tbl (bx_op1 (M := M) (mr := [([ii 0, ii 0, ii 0], some t_impl_Spot)])) rfl (by rintro _ _ ⟨rfl, rfl⟩; rfl) ha hm hM_ (fun σ_ tm_ mem_ a_ w_ hk_ ha_ hm_ hM2_ => by obtain ⟨rfl, rfl⟩ := hk_; exact bx_st_0_1_4_5 hQ rfl ha_ hm_ (hs.keep (hM2_.trans hM_.symm)) hlo)
  · exact bx_put ha hm hs hlo fun w2 hm2 hs2 => bx_st_0_4_5_7 hQ rfl ha hm2 hs2 hlo

theorem bx_st_0_5_7 {ρ : List Nat} {M : Nat} {a : Act} {w : World} {l : Array Bool} (hl : l = #[true, false, false, true, false, true, true, true, false, false, false, false]) (ha : TmAt ρ (bxS wild wild wild (v9 k.a k.b k.c k.d k.e k.f k.g k.h k.i) wild wild (v3 0 0 0) wild (.map (some M)) (v3 0 0 0) wild) a) (hm : MemAt w0 ρ [([ii k.a, ii k.b, ii k.c, ii k.d, ii k.e, ii k.f, ii k.g, ii k.h, ii k.i], some t_impl_Cone)] w) (hs : SeenAt w M [(0, 0, 0)]) (hlo : w0.w.heap.size ≤ M) : wpAny Tryz.prog .any bxO1.toArray (noPan Q) 7 l a w := by
  subst hl
  refine wpAny_all (rs := [1, 4, 8]) (by decide +kernel) (by simp) fun i hi => ?_
  simp only [List.mem_cons, List.not_mem_nil, or_false] at hi
  obtain ⟨es_, cl_, hM_⟩ := hs.obj
  rcases hi with rfl | rfl | rfl
  · exact fragOp good.tbl (bx_op1 (M := M) (mr := [])) rfl (by rintro _ _ ⟨rfl, rfl⟩; rfl) ha hm hM_ (fun σ_ tm_ mem_ a_ w_ hk_ ha_ hm_ hM2_ => by obtain ⟨rfl, rfl⟩ := hk_; exact bx_st_0_1_5_7 hQ rfl ha_ hm_ (hs.keep (hM2_.trans hM_.symm)) hlo)
  · exact fragOp good.tbl (bx_op4 (M := M) (mr := [])) rfl (by rintro _ _ ⟨rfl, rfl⟩; rfl) ha hm hM_ (fun σ_ tm_ mem_ a_ w_ hk_ ha_ hm_ hM2_ => by obtain ⟨rfl, rfl⟩ := hk_; exact bx_st_0_4_5_7 hQ rfl ha_ hm_ (hs.keep (hM2_.trans hM_.symm)) hlo)
  · exact fragOp good.tbl (bx_op8 (M := M) (mr := [])) rfl (by rintro _ _ ⟨rfl, rfl⟩; rfl) ha hm hM_ (fun σ_ tm_ mem_ a_ w_ hk_ ha_ hm_ hM2_ => by obtain ⟨rfl, rfl⟩ := hk_; exact bx_st_0_5_7_8 hQ rfl ha_ hm_ (hs.keep (hM2_.trans hM_.symm)) hlo)

theorem bx_st_4_5_7 {ρ : List Nat} {M : Nat} {a : Act} {w : World} {l : Array Bool} (hl : l = #[false, false, false, true, true, true, true, true, false, false, false, false]) (ha : TmAt ρ (bxS wild wild wild wild wild wild (v3 0 0 0) (.slice (some ⟨1, 0, none⟩) 1 1) (.map (some M)) (v3 0 0 0) wild) a) (hm : MemAt w0 ρ [([ii k.a, ii k.b, ii k.c, ii k.d, ii k.e, ii k.f, ii k.g, ii k.h, ii k.i], some t_impl_Cone), ([ii 0, ii 0, ii 0], some t_impl_Spot)] w) (hs : SeenAt w M [(0, 0, 0)]) (hlo : w0.w.heap.size ≤ M) : wpAny Tryz.prog .any bxO1.toArray (noPan Q) 7 l a w := by
  subst hl
  refine wpAny_all (rs := [0, 8]) (by decide +kernel) (by simp) fun i hi => ?_
  simp only [List.mem_cons, List.not_mem_nil, or_false] at hi
  obtain ⟨es_, cl_, hM_⟩ := hs.obj
  rcases hi with rfl | rfl
  · exact fragOp good.tbl (bx_op0 (M := M) (mr := [([ii 0, ii 0, ii 0], some t_impl_Spot)])) rfl (by rintro _ _ ⟨rfl, rfl⟩; rfl) ha hm hM_ (fun σ_ tm_ mem_ a_ w_ hk_ ha_ hm_ hM2_ => by obtain ⟨rfl, rfl⟩ := hk_; exact bx_st_0_4_5_7 hQ rfl ha_ hm_ (hs.keep (hM2_.trans hM_.symm)) hlo)
  · exact fragOp good.tbl (bx_op8 (M := M) (mr := [([ii 0, ii 0, ii 0], some t_impl_Spot)])) rfl (by rintro _ _ ⟨rfl, rfl⟩; rfl) ha hm hM_ (fun σ_ tm_ mem_ a_ w_ hk_ ha_ hm_ hM2_ => by obtain ⟨rfl, rfl⟩ := hk_; exact bx_st_4_5_7_8 hQ rfl ha_ hm_ (hs.keep (hM2_.trans hM_.symm)) hlo)

theorem bx_st_5_7_8 {ρ : List Nat} {M : Nat} {a : Act} {w : World} {l : Array Bool} (hl : l = #[false, false, false, true, false, true, true, true, true, false, false, false]) (ha : TmAt ρ (bxS wild wild wild wild wild wild (v3 0 0 0) wild (.map (some M)) (v3 0 0 0) (.map (some M))) a) (hm : MemAt w0 ρ [([ii k.a, ii k.b, ii k.c, ii k.d, ii k.e, ii k.f, ii k.g, ii k.h, ii k.i], some t_impl_Cone)] w) (hs : SeenAt w M [(0, 0, 0)]) (hlo : w0.w.heap.size ≤ M) : wpAny Tryz.prog .any bxO1.toArray (noPan Q) 7 l a w := by
  subst hl
  refine wpAny_all (rs := [0, 4]) (by decide +kernel) (by simp) fun i hi => ?_
  simp only [List.mem_cons, List.not_mem_nil, or_false] at hi
  obtain ⟨es_, cl_, hM_⟩ := hs.obj
  rcases hi with rfl | rfl
  · exact fragOp good.tbl (bx_op0 (M := M) (mr := [])) rfl (by rintro _ _ ⟨rfl, rfl⟩; rfl) ha hm hM_ (fun σ_ tm_ mem_ a_ w_ hk_ ha_ hm_ hM2_ => by obtain ⟨rfl, rfl⟩ := hk_; exact bx_st_0_5_7_8 hQ rfl ha_ hm_ (hs.keep (hM2_.trans hM_.symm)) hlo)
  · exact fragOp good.tbl (bx_op4 (M := M) (mr := [])) rfl (by rintro _ _ ⟨rfl, rfl⟩; rfl) ha hm hM_ (fun σ_ tm_ mem_ a_ w_ hk_ ha_ hm_ hM2_ => by obtain ⟨rfl, rfl⟩ := hk_; exact bx_st_4_5_7_8 hQ rfl ha_ hm_ (hs.keep (hM2_.trans hM_.symm)) hlo)

theorem bx_st_0_1 {ρ : List Nat} {a : Act} {w : World} {l : Array Bool} (hl : l = #[true, true, false, true, false, false, true, false, false, false, false, false]) (ha : TmAt ρ (bxS wild wild wild (v9 k.a k.b k.c k.d k.e k.f k.g k.h k.i) (ii (volF k.a k.b k.c k.d k.e k.f k.g k.h k.i)) wild (v3 0 0 0) wild wild (v3 0 0 0) wild) a) (hm : MemAt w0 ρ [([ii k.a, ii k.b, ii k.c, ii k.d, ii k.e, ii k.f, ii k.g, ii k.h, ii k.i], some t_impl_Cone)] w) : wpAny Tryz.prog .any bxO1.toArray (noPan Q) 8 l a w := by
  subst hl
  refine wpAny_all (rs := [2, 4, 5]) (by decide +kernel) (by simp) fun i hi => ?_
  simp only [List.mem_cons, List.not_mem_nil, or_false] at hi
  rcases hi with rfl | rfl | rfl
  · exact pt_op good.tbl (bx_op2 (M := 0) (mr := [])) ha hm (fun σ_ tm_ mem_ a_ w_ hk_ ha_ hm_ => by obtain ⟨rfl, rfl⟩ := hk_; exact bx_st_0_1_2 hQ rfl ha_ hm_)
  · exact pt_op good.tbl (bx_op4 (M := 0) (mr := [])) ha hm (fun σ_ tm_ mem_ a_ w_ hk_ ha_ hm_ => by obtain ⟨rfl, rfl⟩ := hk_; exact bx_st_0_1_4 hQ rfl ha_ hm_)
  · exact bx_make ha hm fun M2 a2 w2 ha2 hm2 hs2 hlo2 => bx_st_0_1_5 hQ rfl ha2 hm2 hs2 hlo2

theorem bx_st_0_4 {ρ : List Nat} {a : Act} {w : World} {l : Array Bool} (hl : l = #[true, false, false, true, true, false, true, false, false, false, false, false]) (ha : TmAt ρ (bxS wild wild wild (v9 k.a k.b k.c k.d k.e k.f k.g k.h k.i) wild wild (v3 0 0 0) (.slice (some ⟨1, 0, none⟩) 1 1) wild (v3 0 0 0) wild) a) (hm : MemAt w0 ρ [([ii k.a, ii k.b, ii k.c, ii k.d, ii k.e, ii k.f, ii k.g, ii k.h, ii k.i], some t_impl_Cone), ([ii 0, ii 0, ii 0], some t_impl_Spot)] w) : wpAny Tryz.prog .any bxO1.toArray (noPan Q) 8 l a w := by
  subst hl
  refine wpAny_all (rs := [1, 5]) (by decide +kernel) (by simp) fun i hi => ?_
  simp only [List.mem_cons, List.not_mem_nil, or_false] at hi
  rcases hi with rfl | rfl
  · exact pt_op good.tbl (bx_op1 (M := 0) (mr := [([ii 0, ii 0, ii 0], some t_impl_Spot)])) ha hm (fun σ_ tm_ mem_ a_ w_ hk_ ha_ hm_ => by obtain ⟨rfl, rfl⟩ := hk_; exact bx_st_0_1_4 hQ rfl ha_ hm_)
  · exact bx_make ha hm fun M2 a2 w2 ha2 hm2 hs2 hlo2 => bx_st_0_4_5 hQ rfl ha2 hm2 hs2 hlo2

theorem bx_st_0_5 {ρ : List Nat} {M : Nat} {a : Act} {w : World} {l : Array Bool} (hl : l = #[true, false, false, true, false, true, true, false, false, false, false, false]) (ha : TmAt ρ (bxS wild wild wild (v9 k.a k.b k.c k.d k.e k.f k.g k.h k.i) wild wild (v3 0 0 0) wild (.map (some M)) (v3 0 0 0) wild) a) (hm : MemAt w0 ρ [([ii k.a, ii k.b, ii k.c, ii k.d, ii k.e, ii k.f, ii k.g, ii k.h, ii k.i], some t_impl_Cone)] w) (hs : SeenAt w M []) (hlo : w0.w.heap.size ≤ M) : wpAny Tryz.prog .any bxO1.toArray (noPan Q) 8 l a w := by
  subst hl
  refine wpAny_all (rs := [1, 4, 7]) (by decide +kernel) (by simp) fun i hi => ?_
  simp only [List.mem_cons, List.not_mem_nil, or_false] at hi
  obtain ⟨es_, cl_, hM_⟩ := hs.obj
  rcases hi with rfl | rfl | rfl
  · exact fragOp good.tbl (bx_op1 (M := M) (mr := [])) rfl (by rintro _ _ ⟨rfl, rfl⟩; rfl) ha hm hM_ (fun σ_ tm_ mem_ a_ w_ hk_ ha_ hm_ hM2_ => by obtain ⟨rfl, rfl⟩ := hk_; exact bx_st_0_1_5 hQ rfl ha_ hm_ (hs.keep (hM2_.trans hM_.symm)) hlo)
  · exact fragOp good.tbl (bx_op4 (M := M) (mr := [])) rfl (by rintro _ _ ⟨rfl, rfl⟩; rfl) ha hm hM_ (fun σ_ tm_ mem_ a_ w_ hk_ ha_ hm_ hM2_ => by obtain ⟨rfl, rfl⟩ := hk_; exact bx_st_0_4_5 hQ rfl ha_ hm_ (hs.keep (hM2_.trans hM_.symm)) hlo)
  · exact bx_put ha hm hs hlo fun w2 hm2 hs2 => bx_st_0_5_7 hQ rfl ha hm2 hs2 hlo

theorem bx_st_4_5 {ρ : List Nat} {M : Nat} {a : Act} {w : World} {l : Array Bool} (hl : l = #[false, false, false, true, true, true, true, false, false, false, false, false]) (ha : TmAt ρ (bxS wild wild wild wild wild wild (v3 0 0 0) (.slice (some ⟨1, 0, none⟩) 1 1) (.map (some M)) (v3 0 0 0) wild) a) (hm : MemAt w0 ρ [([ii k.a, ii k.b, ii k.c, ii k.d, ii k.e, ii k.f, ii k.g, ii k.h, ii k.i], some t_impl_Cone), ([ii 0, ii 0, ii 0], some t_impl_Spot)] w) (hs : SeenAt w M []) (hlo : w0.w.heap.size ≤ M) : wpAny Tryz.prog .any bxO1.toArray (noPan Q) 8 l a w := by
  subst hl
  refine wpAny_all (rs := [0, 7]) (by decide +kernel) (by simp) fun i hi => ?_
  simp only [List.mem_cons, List.not_mem_nil, or_false] at hi
  obtain ⟨es_, cl_, hM_⟩ := hs.obj
  rcases hi with rfl | rfl
  · exact fragOp good.tbl (bx_op0 (M := M) (mr := [([ii 0, ii 0, ii 0], some t_impl_Spot)])) rfl (by rintro _ _ ⟨rfl, rfl⟩; rfl) ha hm hM_ (fun σ_ tm_ mem_ a_ w_ hk_ ha_ hm_ hM2_ => by obtain ⟨rfl, rfl⟩ := hk_; exact bx_st_0_4_5 hQ rfl ha_ hm_ (hs.keep (hM2_.trans hM_.symm)) hlo)
  · exact bx_put ha hm hs hlo fun w2 hm2 hs2 => bx_st_4_5_7 hQ rfl ha hm2 hs2 hlo

theorem bx_st_5_7 {ρ : List Nat} {M : Nat} {a : Act} {w : World} {l : Array Bool} (hl : l = #[false, false, false, true, false, true, true, true, false, false, false, false]) (ha : TmAt ρ (bxS wild wild wild wild wild wild (v3 0 0 0) wild (.map (some M)) (v3 0 0 0) wild) a) (hm : MemAt w0 ρ [([ii k.a, ii k.b, ii k.c, ii k.d, ii k.e, ii k.f, ii k.g, ii k.h, ii k.i], some t_impl_Cone)] w) (hs : SeenAt w M [(0, 0, 0)]) (hlo : w0.w.heap.size ≤ M) : wpAny Tryz.prog .any bxO1.toArray (noPan Q) 8 l a w := by
  subst hl
  refine wpAny_all (rs := [0, 4, 8]) (by decide +kernel) (by simp) fun i hi => ?_
  simp only [List.mem_cons, List.not_mem_nil, or_false] at hi
  obtain ⟨es_, cl_, hM_⟩ := hs.obj
  rcases hi with rfl | rfl | rfl
  · exact fragOp good.tbl (bx_op0 (M := M) (mr := [])) rfl (by rintro _ _ ⟨rfl, rfl⟩; rfl) ha hm hM_ (fun σ_ tm_ mem_ a_ w_ hk_ ha_ hm_ hM2_ => by obtain ⟨rfl, rfl⟩ := hk_; exact bx_st_0_5_7 hQ rfl ha_ hm_ (hs.keep (hM2_.trans hM_.symm)) hlo)
  · exact fragOp good.tbl (bx_op4 (M := M) (mr := [])) rfl (by rintro _ _ ⟨rfl, rfl⟩; rfl) ha hm hM_ (fun σ_ tm_ mem_ a_ w_ hk_ ha_ hm_ hM2_ => by obtain ⟨rfl, rfl⟩ := hk_; exact bx_st_4_5_7 hQ rfl ha_ hm_ (hs.keep (hM2_.trans hM_.symm)) hlo)
  · exact fragOp good.tbl (bx_op8 (M := M) (mr := [])) rfl (by rintro _ _ ⟨rfl, rfl⟩; rfl) ha hm hM_ (fun σ_ tm_ mem_ a_ w_ hk_ ha_ hm_ hM2_ => by obtain ⟨rfl, rfl⟩ := hk_; exact bx_st_5_7_8 hQ rfl ha_ hm_ (hs.keep (hM2_.trans hM_.symm)) hlo)

theorem bx_st_0 {ρ : List Nat} {a : Act} {w : World} {l : Array Bool} (hl : l = #[true, false, false, true, false, false, true, false, false, false, false, false]) (ha : TmAt ρ (bxS wild wild wild (v9 k.a k.b k.c k.d k.e k.f k.g k.h k.i) wild wild (v3 0 0 0) wild wild (v3 0 0 0) wild) a) (hm : MemAt w0 ρ [([ii k.a, ii k.b, ii k.c, ii k.d, ii k.e, ii k.f, ii k.g, ii k.h, ii k.i], some t_impl_Cone)] w) : wpAny Tryz.prog .any bxO1.toArray (noPan Q) 9 l a w := by
  subst hl
  refine wpAny_all (rs := [1, 4, 5]) (by decide +kernel) (by simp) fun i hi => ?_
  simp only [List.mem_cons, List.not_mem_nil, or_false] at hi
  rcases hi with rfl | rfl | rfl
  · exact pt_op good.tbl (bx_op1 (M := 0) (mr := [])) ha hm (fun σ_ tm_ mem_ a_ w_ hk_ ha_ hm_ => by obtain ⟨rfl, rfl⟩ := hk_; exact bx_st_0_1 hQ rfl ha_ hm_)
  · exact pt_op good.tbl (bx_op4 (M := 0) (mr := [])) ha hm (fun σ_ tm_ mem_ a_ w_ hk_ ha_ hm_ => by obtain ⟨rfl, rfl⟩ := hk_; exact bx_st_0_4 hQ rfl ha_ hm_)
  · exact bx_make ha hm fun M2 a2 w2 ha2 hm2 hs2 hlo2 => bx_st_0_5 hQ rfl ha2 hm2 hs2 hlo2

theorem bx_st_4 {ρ : List Nat} {a : Act} {w : World} {l : Array Bool} (hl : l = #[false, false, false, true, true, false, true, false, false, false, false, false]) (ha : TmAt ρ (bxS wild wild wild wild wild wild (v3 0 0 0) (.slice (some ⟨1, 0, none⟩) 1 1) wild (v3 0 0 0) wild) a) (hm : MemAt w0 ρ [([ii k.a, ii k.b, ii k.c, ii k.d, ii k.e, ii k.f, ii k.g, ii k.h, ii k.i], some t_impl_Cone), ([ii 0, ii 0, ii 0], some t_impl_Spot)] w) : wpAny Tryz.prog .any bxO1.toArray (noPan Q) 9 l a w := by
  subst hl
  refine wpAny_all (rs := [0, 5]) (by decide +kernel) (by simp) fun i hi => ?_
  simp only [List.mem_cons, List.not_mem_nil, or_false] at hi
  rcases hi with rfl | rfl
  · exact pt_op good.tbl (bx_op0 (M := 0) (mr := [([ii 0, ii 0, ii 0], some t_impl_Spot)])) ha hm (fun σ_ tm_ mem_ a_ w_ hk_ ha_ hm_ => by obtain ⟨rfl, rfl⟩ := hk_; exact bx_st_0_4 hQ rfl ha_ hm_)
  · exact bx_make ha hm fun M2 a2 w2 ha2 hm2 hs2 hlo2 => bx_st_4_5 hQ rfl ha2 hm2 hs2 hlo2

theorem bx_st_5 {ρ : List Nat} {M : Nat} {a : Act} {w : World} {l : Array Bool} (hl : l = #[false, false, false, true, false, true, true, false, false, false, false, false]) (ha : TmAt ρ (bxS wild wild wild wild wild wild (v3 0 0 0) wild (.map (some M)) (v3 0 0 0) wild) a) (hm : MemAt w0 ρ [([ii k.a, ii k.b, ii k.c, ii k.d, ii k.e, ii k.f, ii k.g, ii k.h, ii k.i], some t_impl_Cone)] w) (hs : SeenAt w M []) (hlo : w0.w.heap.size ≤ M) : wpAny Tryz.prog .any bxO1.toArray (noPan Q) 9 l a w := by
  subst hl
  refine wpAny_all (rs := [0, 4, 7]) (by decide +kernel) (by simp) fun i hi => ?_
  simp only [List.mem_cons, List.not_mem_nil, or_false] at hi
  obtain ⟨es_, cl_, hM_⟩ := hs.obj
  rcases hi with rfl | rfl | rfl
  · exact fragOp good.tbl (bx_op0 (M := M) (mr := [])) rfl (by rintro _ _ ⟨rfl, rfl⟩; rfl) ha hm hM_ (fun σ_ tm_ mem_ a_ w_ hk_ ha_ hm_ hM2_ => by obtain ⟨rfl, rfl⟩ := hk_; exact bx_st_0_5 hQ rfl ha_ hm_ (hs.keep (hM2_.trans hM_.symm)) hlo)
  · exact fragOp good.tbl (bx_op4 (M := M) (mr := [])) rfl (by rintro _ _ ⟨rfl, rfl⟩; rfl) ha hm hM_ (fun σ_ tm_ mem_ a_ w_ hk_ ha_ hm_ hM2_ => by obtain ⟨rfl, rfl⟩ := hk_; exact bx_st_4_5 hQ rfl ha_ hm_ (hs.keep (hM2_.trans hM_.symm)) hlo)
  · exact bx_put ha hm hs hlo fun w2 hm2 hs2 => bx_st_5_7 hQ rfl ha hm2 hs2 hlo

theorem bx_st {ρ : List Nat} {a : Act} {w : World} {l : Array Bool} (hl : l = #[false, false, false, true, false, false, true, false, false, false, false, false]) (ha : TmAt ρ (bxS wild wild wild wild wild wild (v3 0 0 0) wild wild (v3 0 0 0) wild) a) (hm : MemAt w0 ρ [([ii k.a, ii k.b, ii k.c, ii k.d, ii k.e, ii k.f, ii k.g, ii k.h, ii k.i], some t_impl_Cone)] w) : wpAny Tryz.prog .any bxO1.toArray (noPan Q) 10 l a w := by
  subst hl
  refine wpAny_all (rs := [0, 4, 5]) (by decide +kernel) (by simp) fun i hi => ?_
  simp only [List.mem_cons, List.not_mem_nil, or_false] at hi
  rcases hi with rfl | rfl | rfl
  · exact pt_op good.tbl (bx_op0 (M := 0) (mr := [])) ha hm (fun σ_ tm_ mem_ a_ w_ hk_ ha_ hm_ => by obtain ⟨rfl, rfl⟩ := hk_; exact bx_st_0 hQ rfl ha_ hm_)
  · exact pt_op good.tbl (bx_op4 (M := 0) (mr := [])) ha hm (fun σ_ tm_ mem_ a_ w_ hk_ ha_ hm_ => by obtain ⟨rfl, rfl⟩ := hk_; exact bx_st_4 hQ rfl ha_ hm_)
  · exact bx_make ha hm fun M2 a2 w2 ha2 hm2 hs2 hlo2 => bx_st_5 hQ rfl ha2 hm2 hs2 hlo2

end

end Go.Proofs.YtndmkibdcfpddaaGreat
end

section
/-
  Contracts of functions of the program (printed by a program of this work; Lean checks each).
  Conditions: as each contract states.
-/
namespace Go.Proofs.YtndmkibdcfpddaaGreat
open Go.Ev Go.RowKit
set_option maxRecDepth 100000
set_option linter.unusedVariables false
set_option linter.unusedSimpArgs false

attribute [local irreducible] Cn.own Cn.D

abbrev boxR (k : Cn) : Value → Mem → Prop := fun v m_ => ∃ n c sp, Row (sl ((boxL k).map k.own)) sp n c 3 ∧ v = .slice (some ⟨0, 0, none⟩) n c ∧ m_ = [(sl ((boxL k).map k.own) ++ sp, some t_impl_Spot)]

set_option maxHeartbeats 2000000 in
theorem bx_p0 {k : Cn}  : evCut Tryz.prog tbl 0 1 code38 ([v9 k.a k.b k.c k.d k.e k.f k.g k.h k.i] ++ undefs 61) [] (cutP tbl Tryz.f38.results.toList (OutK 0 (boxR k)) 0 (fun tm mem => tm = (bxS wild wild wild wild wild wild wild wild wild wild wild) ∧ mem = [([ii k.a, ii k.b, ii k.c, ii k.d, ii k.e, ii k.f, ii k.g, ii k.h, ii k.i], some t_impl_Cone)])) := by
  
  conv => whnf
  all_goals (repeat' first | (exact next_forget [0] ⟨rfl, rfl⟩ (tmR_rfl rfl rfl) ⟨⟨⟨_, rfl, .plain rfl rfl (by first | exact Plain.of rfl | exact Row.all (by assumption))⟩⟩, trivial⟩ rfl rfl) | (refine StoreK.mk rfl ?_; conv => whnf) | exact join_same | exact (by assumption : (_ : Bool) = (_ : Bool)) | (refine br_true (by assumption) ?_; conv => whnf) | (refine br_false (by assumption) ?_; conv => whnf) | (refine br_not ?_; conv => whnf) | (refine br_code ?_; conv => whnf) | (with_reducible refine br_and ?_; conv => whnf) | (with_reducible refine br_or ?_; conv => whnf) | (refine br_eq2 ?_; conv => whnf) | (refine draw_auto (by decide +kernel) ?_; conv => whnf) | (refine draw_asg (by decide +kernel) ?_; conv => whnf) | (refine draw_st (by decide +kernel) ?_; conv => whnf) | (refine draw_call (by decide +kernel) ?_; conv => whnf) | (refine enter_same (loop_n 12 ?_); conv => whnf) | (refine next_same ?_; conv => whnf) | (refine mapK_row (by assumption) ?_; conv => whnf) | (refine mapK_plain (Plain.of rfl) ?_; conv => whnf) | (refine mapK_lit ?_; conv => whnf) | (refine br_split (fun _ => ?_) (fun _ => ?_) <;> conv => whnf) | exact (rfl : (_ : Value) = _) | (simp only [*]; exact (rfl : (_ : Value) = _)) | (simp [*]; done))

set_option maxHeartbeats 2000000 in
theorem bx_t36 {k : Cn}  : ptK Tryz.prog tbl bxO1 (.take 3 (.take 6 .done)) (bxS wild wild wild wild wild wild wild wild wild wild wild) [([ii k.a, ii k.b, ii k.c, ii k.d, ii k.e, ii k.f, ii k.g, ii k.h, ii k.i], some t_impl_Cone)] (fun tm mem => tm = (bxS wild wild wild wild wild wild (v3 0 0 0) wild wild (v3 0 0 0) wild) ∧ mem = [([ii k.a, ii k.b, ii k.c, ii k.d, ii k.e, ii k.f, ii k.g, ii k.h, ii k.i], some t_impl_Cone)]) := by
  
  conv => whnf
  all_goals (repeat' first | (refine ⟨rfl, rfl⟩) | (refine StoreK.mk rfl ?_; conv => whnf) | exact join_same | exact (by assumption : (_ : Bool) = (_ : Bool)) | (refine br_true (by assumption) ?_; conv => whnf) | (refine br_false (by assumption) ?_; conv => whnf) | (refine br_not ?_; conv => whnf) | (refine br_code ?_; conv => whnf) | (with_reducible refine br_and ?_; conv => whnf) | (with_reducible refine br_or ?_; conv => whnf) | (refine br_eq2 ?_; conv => whnf) | (refine draw_auto (by decide +kernel) ?_; conv => whnf) | (refine draw_asg (by decide +kernel) ?_; conv => whnf) | (refine draw_st (by decide +kernel) ?_; conv => whnf) | (refine draw_call (by decide +kernel) ?_; conv => whnf) | (refine enter_same (loop_n 12 ?_); conv => whnf) | (refine next_same ?_; conv => whnf) | (refine mapK_row (by assumption) ?_; conv => whnf) | (refine mapK_plain (Plain.of rfl) ?_; conv => whnf) | (refine mapK_lit ?_; conv => whnf) | (refine br_split (fun _ => ?_) (fun _ => ?_) <;> conv => whnf) | exact (rfl : (_ : Value) = _) | (simp only [*]; exact (rfl : (_ : Value) = _)) | (simp [*]; done))

set_option maxHeartbeats 2000000 in
theorem bx_x2s {k : Cn} {M : Nat}  : ev Tryz.prog tbl 0 bxX2 (bxS (ii k.D) (.slice (some ⟨1, 0, none⟩) 1 1) (.map (some M)) (v9 k.a k.b k.c k.d k.e k.f k.g k.h k.i) (ii (volF k.a k.b k.c k.d k.e k.f k.g k.h k.i)) (ii k.D) (v3 0 0 0) (.slice (some ⟨1, 0, none⟩) 1 1) (.map (some M)) (v3 0 0 0) (.map (some M))) [([ii k.a, ii k.b, ii k.c, ii k.d, ii k.e, ii k.f, ii k.g, ii k.h, ii k.i], some t_impl_Cone), ([ii 0, ii 0, ii 0], some t_impl_Spot)] (fun e_ tm mem => match e_ with | .normal => ownAll mem = true ∧ NextK 0 (fun tm mem => tm = bxTO k 1 1 M 0 ∧ mem = bxM k [(0, 0, 0)] []) tm mem | _ => False) := by
  
  conv => whnf
  all_goals (repeat' first | (refine ⟨rfl, next_forget [0, 1] ⟨rfl, rfl⟩ (tmR_rfl rfl rfl) ⟨⟨⟨_, rfl, .plain rfl rfl (by first | exact Plain.of rfl | exact Row.all (by assumption))⟩⟩, ⟨⟨_, rfl, .plain rfl rfl (by first | exact Plain.of rfl | exact Row.all (by assumption))⟩⟩, trivial⟩ rfl rfl⟩) | (refine StoreK.mk rfl ?_; conv => whnf) | exact join_same | exact (by assumption : (_ : Bool) = (_ : Bool)) | (refine br_true (by assumption) ?_; conv => whnf) | (refine br_false (by assumption) ?_; conv => whnf) | (refine br_not ?_; conv => whnf) | (refine br_code ?_; conv => whnf) | (with_reducible refine br_and ?_; conv => whnf) | (with_reducible refine br_or ?_; conv => whnf) | (refine br_eq2 ?_; conv => whnf) | (refine draw_auto (by decide +kernel) ?_; conv => whnf) | (refine draw_asg (by decide +kernel) ?_; conv => whnf) | (refine draw_st (by decide +kernel) ?_; conv => whnf) | (refine draw_call (by decide +kernel) ?_; conv => whnf) | (refine enter_same (loop_n 12 ?_); conv => whnf) | (refine next_same ?_; conv => whnf) | (refine mapK_row (by assumption) ?_; conv => whnf) | (refine mapK_plain (Plain.of rfl) ?_; conv => whnf) | (refine mapK_lit ?_; conv => whnf) | (refine br_split (fun _ => ?_) (fun _ => ?_) <;> conv => whnf) | exact (rfl : (_ : Value) = _) | (simp only [*]; exact (rfl : (_ : Value) = _)) | (simp [*]; done))

set_option maxHeartbeats 2000000 in
theorem bx_z {k : Cn} {n e M : Nat} {i : Int} {sp : List Value} (h1 : Row (sl ((boxL k).map k.own)) sp n e 3) : ev Tryz.prog tbl 0 bxZ (bxTO k n e M i) (bxM k ((boxL k).map k.own) sp) (finP tbl Tryz.f38.results.toList (OutK 0 (boxR k))) := by
  
  conv => whnf
  all_goals (repeat' first | (exact out_forget [_] ⟨_, _, _, h1, rfl, rfl⟩ rfl (okB2_spec rfl) ⟨⟨⟨_, rfl, .plain rfl rfl (Row.all h1)⟩⟩, trivial⟩ rfl rfl) | (refine StoreK.mk rfl ?_; conv => whnf) | exact join_same | exact (by assumption : (_ : Bool) = (_ : Bool)) | (refine br_true (by assumption) ?_; conv => whnf) | (refine br_false (by assumption) ?_; conv => whnf) | (refine br_not ?_; conv => whnf) | (refine br_code ?_; conv => whnf) | (with_reducible refine br_and ?_; conv => whnf) | (with_reducible refine br_or ?_; conv => whnf) | (refine br_eq2 ?_; conv => whnf) | (refine draw_auto (by decide +kernel) ?_; conv => whnf) | (refine draw_asg (by decide +kernel) ?_; conv => whnf) | (refine draw_st (by decide +kernel) ?_; conv => whnf) | (refine draw_call (by decide +kernel) ?_; conv => whnf) | (refine enter_same (loop_n 12 ?_); conv => whnf) | (refine next_same ?_; conv => whnf) | (refine mapK_row (by assumption) ?_; conv => whnf) | (refine mapK_plain (Plain.of rfl) ?_; conv => whnf) | (refine mapK_lit ?_; conv => whnf) | (refine br_split (fun _ => ?_) (fun _ => ?_) <;> conv => whnf) | exact (rfl : (_ : Value) = _) | (simp only [*]; exact (rfl : (_ : Value) = _)) | (simp [*]; done))

theorem bx_runs {k : Cn} (hk : k.Ok) : RunsOK Tryz.prog Tryz.f38 0 (OutK 0 (boxR k)) (gR code38) (bxS wild wild wild wild wild wild wild wild wild wild wild) [([ii k.a, ii k.b, ii k.c, ii k.d, ii k.e, ii k.f, ii k.g, ii k.h, ii k.i], some t_impl_Cone)] := by
  refine ⟨fun {w0 ρ0 σ w a} hρ ha hm => ?_⟩
  obtain rfl : ρ0 = [] := List.length_eq_zero_iff.1 hρ
  rw [List.nil_append] at ha hm
  rw [bx_1]
  refine wp_seq (Code.wp_mono noPan_imp (wp_region_any good.mix ?_))
  refine pt_sound good.tbl (.take 3 (.take 6 .done)) 2 10 _ #[false, false, false, true, false, false, true, false, false, false, false, false] (by decide +kernel) bx_t36 ha (hm.drew (w.drawn + 1)) (fun σ1 tm1 mem1 a1 w1 hk1 ha1 hm1 => ?_)
  obtain ⟨rfl, rfl⟩ := hk1
  refine bx_st (k := k) (fun ρ2 M a2 w2 ha2 hm2 hs2 hlo => ?_) rfl ha1 hm1
  rw [Cn.size_F hk] at ha2
  rw [bx_2]
  refine wp_seq (wp_seq ?_)
  obtain ⟨es, cl, hM⟩ := hs2.obj
  refine frag good.tbl good.mix bxX2 (bx_x2s (k := k) (M := M)) rfl (fun e_ tm mem h => by cases e_ <;> first | exact h.1 | exact (h : False).elim) (ρ0 := []) (σ := ρ2) rfl ha2 hm2 hM (fun e_ σ3 tm3 mem3 a3 w3 h3 ha3 hm3 hM3 => ?_)
  cases e_ with
  | normal =>
    obtain ⟨ρ3, ha3, hm3⟩ := nx_get h3.2 ha3 hm3
    have e0 : [((0 : Int), (0 : Int), (0 : Int))].map k.own = [(0, 0, 0)] := by rw [List.map_cons, List.map_nil, Cn.own_zero]
    refine bx_outer (M := M) (L := [(0, 0, 0)]) (w0 := w0) (BxO.start hk) ⟨⟨ρ3, 1, 1, [], ?_, ha3, ?_, ?_⟩, hlo⟩ (fun a4 w4 i hs4 => ?_)
    · rw [e0]; exact Row.lit rfl rfl
    · rw [e0]; exact hm3
    · rw [e0]; exact hs2.keep (hM3.trans hM.symm)
    · obtain ⟨ρ4, n4, e4, sp4, hr4, ha4, hm4, hsn4⟩ := hs4.ex
      show bxZ.wp Tryz.prog _ a4 w4
      exact ev_sound good.tbl good.mix (ρ0 := []) (σ := ρ4) rfl bxZ (bx_z hr4) ha4 hm4 fun e σ tm' mem' a' w' hk' ha' hm' => fin_post good.tbl hk' ha' hm'
  | _ => exact (h3 : False).elim
theorem c_Cone_box {k : Cn} (hk : k.Ok) : CallOK Tryz.prog n_impl_Cone_box [v9 k.a k.b k.c k.d k.e k.f k.g k.h k.i] [] (boxR k) :=
  runs_fn good fn_impl_Cone_box (runs_cut good 1 bx_p0 (fun tm mem h => by obtain ⟨rfl, rfl⟩ := h; exact bx_runs hk))

end Go.Proofs.YtndmkibdcfpddaaGreat
end
