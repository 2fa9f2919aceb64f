/-
  Contracts of functions of the program (printed by a program of this work; Lean checks each).
  Conditions: as each contract states.
-/
import Derived.Test.YtndmkibdcfpddaaK153
import Derived.Test.YtndmkibdcfpddaaK151
namespace Go.Proofs.Ytndmkibdcfpddaa
open Go.Ev Go.RowKit
set_option maxRecDepth 100000
set_option linter.unusedVariables false
set_option linter.unusedSimpArgs false

attribute [local irreducible] gcdF

theorem c_Spot_length {a b c : Int}  : Pure Try.prog n_impl_Spot_length [v3 a b c] (ii (lnF a b c)) := by
  refine pure_of good fn_impl_Spot_length rfl rfl ?_
  conv => whnf
  all_goals (repeat' first
    | (refine StoreK.mk rfl ?_; conv => whnf)
    | exact join_same
    | exact (by assumption : (_ : Bool) = (_ : Bool))
    | (refine br_true (by assumption) ?_; conv => whnf)
    | (refine br_false (by assumption) ?_; conv => whnf)
    | (refine br_not ?_; conv => whnf)
    | (refine br_code ?_; conv => whnf)
    | (with_reducible refine br_and ?_; conv => whnf)
    | (with_reducible refine br_or ?_; conv => whnf)
    | (refine br_eq2 ?_; conv => whnf)
    | (refine c_impl_gcd.call ?_; conv => whnf)
    | (refine c_impl_gcd.quiet ?_; conv => whnf)
    | (refine draw_auto (by decide +kernel) ?_; conv => whnf)
    | (refine draw_asg (by decide +kernel) ?_; conv => whnf)
    | (refine draw_st (by decide +kernel) ?_; conv => whnf)
    | (refine draw_call (by decide +kernel) ?_; conv => whnf)
    | (refine enter_same (loop_n 12 ?_); conv => whnf)
    | (refine next_same ?_; conv => whnf)
    | (refine mapK_row (by assumption) ?_; conv => whnf)
    | (refine mapK_plain (Plain.of rfl) ?_; conv => whnf)
    | (refine mapK_lit ?_; conv => whnf)
    | (refine br_split (fun _ => ?_) (fun _ => ?_) <;> conv => whnf)
    | exact (rfl : (_ : Value) = _)
    | (simp only [*]; exact (rfl : (_ : Value) = _))
    | (simp [lnF, *]; done))

theorem c_l08_length {a b c : Int}  : Pure Try.prog n_spec_l08Length [v3 a b c] (ii (lnF a b c)) := by
  refine pure_of good fn_spec_l08Length rfl rfl ?_
  conv => whnf
  all_goals (repeat' first
    | (refine StoreK.mk rfl ?_; conv => whnf)
    | exact join_same
    | exact (by assumption : (_ : Bool) = (_ : Bool))
    | (refine br_true (by assumption) ?_; conv => whnf)
    | (refine br_false (by assumption) ?_; conv => whnf)
    | (refine br_not ?_; conv => whnf)
    | (refine br_code ?_; conv => whnf)
    | (with_reducible refine br_and ?_; conv => whnf)
    | (with_reducible refine br_or ?_; conv => whnf)
    | (refine br_eq2 ?_; conv => whnf)
    | (refine c_spec_l01Gcd.call ?_; conv => whnf)
    | (refine c_spec_l01Gcd.quiet ?_; conv => whnf)
    | (refine draw_auto (by decide +kernel) ?_; conv => whnf)
    | (refine draw_asg (by decide +kernel) ?_; conv => whnf)
    | (refine draw_st (by decide +kernel) ?_; conv => whnf)
    | (refine draw_call (by decide +kernel) ?_; conv => whnf)
    | (refine enter_same (loop_n 12 ?_); conv => whnf)
    | (refine next_same ?_; conv => whnf)
    | (refine mapK_row (by assumption) ?_; conv => whnf)
    | (refine mapK_plain (Plain.of rfl) ?_; conv => whnf)
    | (refine mapK_lit ?_; conv => whnf)
    | (refine br_split (fun _ => ?_) (fun _ => ?_) <;> conv => whnf)
    | exact (rfl : (_ : Value) = _)
    | (simp only [*]; exact (rfl : (_ : Value) = _))
    | (simp [lnF, *]; done))

attribute [local irreducible] Cn.own Cn.D genN genI hilI hilO boxL lnF

theorem c_size_D {k : Cn} (hk : k.Ok) : Pure Try.prog n_impl_size [ii (volF k.a k.b k.c k.d k.e k.f k.g k.h k.i)] (ii k.D) := by
  have := c_impl_size (n := volF k.a k.b k.c k.d k.e k.f k.g k.h k.i)
  rw [Cn.size_F hk] at this
  exact this

theorem c_delete_hil {k : Cn} (hk : k.Ok) {sp B : List Value} {n c q m d : Nat} (h1 : Row (sl ((genI k).map k.own)) sp n c 3) (h2 : RowO B q (sl ((genI k).map k.own)) m d 3) (hm : m ≤ 100000000) :
    CallOK Try.prog n_slices_DeleteFunc_Spot [.slice (some ⟨0, 0, none⟩) n c, .func (.func n_impl_HilbertBasis_1) #[] #[.pointer (some ⟨2, 0, none⟩)]] [(sl ((genI k).map k.own) ++ sp, some t_impl_Spot), (B, none), ([.slice (some ⟨1, q, none⟩) m d], none)] (fun v m_ => ∃ n2 s2, Row (sl ((hilI k).map k.own)) s2 n2 c 3 ∧ v = .slice (some ⟨0, 0, none⟩) n2 c ∧ m_ = [(sl ((hilI k).map k.own) ++ s2, some t_impl_Spot), (B, none), ([.slice (some ⟨1, q, none⟩) m d], none)]) := by
  have := c_delete h1 (by have h5_ := row_sl h1; have h6_ := (genI_spl hk).le; rw [List.length_map] at h5_; omega) h2 hm
  rw [hilF hk] at this
  exact this

set_option maxHeartbeats 4000000 in
theorem c_impl_Hil_ok {k : Cn} (hk : k.Ok) : CallOK Try.prog n_impl_HilbertBasis [v9 k.a k.b k.c k.d k.e k.f k.g k.h k.i] [] (fun v m_ => ∃ n c sp, Row (sl (hilO k)) sp n c 3 ∧ n ≤ 64000003 ∧ v = t2 (.slice (some ⟨0, 0, none⟩) n c) (ii 0) ∧ m_ = [(sl (hilO k) ++ sp, some t_impl_Spot)]) := by
  have h1 := Cn.cone_F hk; have h2 := Cn.lim_F hk; refine callOK_ofF good fn_impl_HilbertBasis ?_
  conv => whnf
  all_goals (repeat' first
    | (refine CallOK.useR (c_Cone_box hk) [] rfl rfl rfl trivial (fun v_ mem_ hR => ?_); obtain ⟨n1_, c1_, s1_, hr1_, rfl, rfl⟩ := hR; refine ⟨rfl, ?_⟩; conv => whnf)
    | (refine enter_forget [0, 1, 2] (loop_rec (fun (s : Int × (List Value) × Nat × Nat × Nat) => match s with | (i, C, o, n, c) => [wild, .pointer (some ⟨0, 0, none⟩), wild, wild, wild, .pointer (some ⟨2, 0, none⟩), wild, wild, wild, wild, wild, wild, wild, wild, wild, wild, wild, wild, v9 k.a k.b k.c k.d k.e k.f k.g k.h k.i, ii i, wild, wild, wild, wild, wild, wild, wild, wild, wild, wild, wild, wild, wild, wild, wild, wild, wild, wild, wild, wild, wild, wild, wild, wild]) (fun (s : Int × (List Value) × Nat × Nat × Nat) => match s with | (i, C, o, n, c) => [([ii k.a, ii k.b, ii k.c, ii k.d, ii k.e, ii k.f, ii k.g, ii k.h, ii k.i], some t_impl_Cone), (C, some t_impl_Spot), ([.slice (some ⟨1, o, none⟩) n c], some 52)]) (fun (s : Int × (List Value) × Nat × Nat × Nat) => match s with | (i, C, o, n, c) => (3 - i).toNat) (fun (s : Int × (List Value) × Nat × Nat × Nat) => match s with | (i, C, o, n, c) => RayI k i C o n c) (0, _, _, _, _) ⟨by decide, by decide, tail_row hk hr1_⟩ ?_) (tmR_rfl rfl rfl) ⟨⟨⟨_, rfl, .plain rfl rfl (by first | exact Plain.of rfl | exact Row.all (by assumption))⟩⟩, ⟨⟨_, rfl, .plain rfl rfl (RowO.all (tail_row hk hr1_))⟩⟩, ⟨⟨_, rfl, .lit rfl rfl (fun v hv => okB0_spec (allL_spec rfl v hv))⟩⟩, trivial⟩ rfl rfl; rintro fuel_ ⟨i, C, o, n, c⟩ hI IH; replace hI : RayI k i C o n c := hI; conv => whnf)
    | exact next_forget [0, 1, 2] (IH (w64 (0 + 1), C, o, n, c) (ray_n0 hI (by assumption)) ray_m0) (tmR_rfl rfl rfl) ⟨⟨⟨_, rfl, .plain rfl rfl (by first | exact Plain.of rfl | exact Row.all (by assumption))⟩⟩, ⟨⟨_, rfl, .plain rfl rfl (RowO.all hI.row)⟩⟩, ⟨⟨_, rfl, .lit rfl rfl (fun v hv => okB0_spec (allL_spec rfl v hv))⟩⟩, trivial⟩ rfl rfl
    | exact next_forget [0, 1, 2] (IH (w64 (0 + 1), ca_, o, n + 1, c) (ray_y0 ra_ (by assumption)) ray_m0) (tmR_rfl rfl rfl) ⟨⟨⟨_, rfl, .plain rfl rfl (by first | exact Plain.of rfl | exact Row.all (by assumption))⟩⟩, ⟨⟨_, rfl, .plain rfl rfl (RowO.all ra_)⟩⟩, ⟨⟨_, rfl, .lit rfl rfl (fun v hv => okB0_spec (allL_spec rfl v hv))⟩⟩, trivial⟩ rfl rfl
    | exact next_forget [0, _, 2] (IH (w64 (0 + 1), ca_, 0, n + 1, da_) (ray_y0 ra_ (by assumption)) ray_m0) (tmR_rfl rfl rfl) ⟨⟨⟨_, rfl, .plain rfl rfl (by first | exact Plain.of rfl | exact Row.all (by assumption))⟩⟩, ⟨⟨_, rfl, .plain rfl rfl (RowO.all ra_)⟩⟩, ⟨⟨_, rfl, .lit rfl rfl (fun v hv => okB0_spec (allL_spec rfl v hv))⟩⟩, trivial⟩ rfl rfl
    | exact next_forget [0, 1, 2] (IH (w64 (1 + 1), C, o, n, c) (ray_n1 hI (by assumption)) ray_m1) (tmR_rfl rfl rfl) ⟨⟨⟨_, rfl, .plain rfl rfl (by first | exact Plain.of rfl | exact Row.all (by assumption))⟩⟩, ⟨⟨_, rfl, .plain rfl rfl (RowO.all hI.row)⟩⟩, ⟨⟨_, rfl, .lit rfl rfl (fun v hv => okB0_spec (allL_spec rfl v hv))⟩⟩, trivial⟩ rfl rfl
    | exact next_forget [0, 1, 2] (IH (w64 (1 + 1), ca_, o, n + 1, c) (ray_y1 ra_ (by assumption)) ray_m1) (tmR_rfl rfl rfl) ⟨⟨⟨_, rfl, .plain rfl rfl (by first | exact Plain.of rfl | exact Row.all (by assumption))⟩⟩, ⟨⟨_, rfl, .plain rfl rfl (RowO.all ra_)⟩⟩, ⟨⟨_, rfl, .lit rfl rfl (fun v hv => okB0_spec (allL_spec rfl v hv))⟩⟩, trivial⟩ rfl rfl
    | exact next_forget [0, _, 2] (IH (w64 (1 + 1), ca_, 0, n + 1, da_) (ray_y1 ra_ (by assumption)) ray_m1) (tmR_rfl rfl rfl) ⟨⟨⟨_, rfl, .plain rfl rfl (by first | exact Plain.of rfl | exact Row.all (by assumption))⟩⟩, ⟨⟨_, rfl, .plain rfl rfl (RowO.all ra_)⟩⟩, ⟨⟨_, rfl, .lit rfl rfl (fun v hv => okB0_spec (allL_spec rfl v hv))⟩⟩, trivial⟩ rfl rfl
    | exact next_forget [0, 1, 2] (IH (w64 (2 + 1), C, o, n, c) (ray_n2 hI (by assumption)) ray_m2) (tmR_rfl rfl rfl) ⟨⟨⟨_, rfl, .plain rfl rfl (by first | exact Plain.of rfl | exact Row.all (by assumption))⟩⟩, ⟨⟨_, rfl, .plain rfl rfl (RowO.all hI.row)⟩⟩, ⟨⟨_, rfl, .lit rfl rfl (fun v hv => okB0_spec (allL_spec rfl v hv))⟩⟩, trivial⟩ rfl rfl
    | exact next_forget [0, 1, 2] (IH (w64 (2 + 1), ca_, o, n + 1, c) (ray_y2 ra_ (by assumption)) ray_m2) (tmR_rfl rfl rfl) ⟨⟨⟨_, rfl, .plain rfl rfl (by first | exact Plain.of rfl | exact Row.all (by assumption))⟩⟩, ⟨⟨_, rfl, .plain rfl rfl (RowO.all ra_)⟩⟩, ⟨⟨_, rfl, .lit rfl rfl (fun v hv => okB0_spec (allL_spec rfl v hv))⟩⟩, trivial⟩ rfl rfl
    | exact next_forget [0, _, 2] (IH (w64 (2 + 1), ca_, 0, n + 1, da_) (ray_y2 ra_ (by assumption)) ray_m2) (tmR_rfl rfl rfl) ⟨⟨⟨_, rfl, .plain rfl rfl (by first | exact Plain.of rfl | exact Row.all (by assumption))⟩⟩, ⟨⟨_, rfl, .plain rfl rfl (RowO.all ra_)⟩⟩, ⟨⟨_, rfl, .lit rfl rfl (fun v hv => okB0_spec (allL_spec rfl v hv))⟩⟩, trivial⟩ rfl rfl
    | (show brK (decide (i < (3 : Int))) _ _; refine br_split (fun _ => ?_) (fun _ => ?_) <;> conv => whnf)
    | (rename decide (i < (3 : Int)) = true => g_; rcases hI.three (of_decide_eq_true g_) with rfl | rfl | rfl <;> conv => whnf)
    | (refine (c_size_D hk).call ?_; conv => whnf)
    | (refine (c_size_D hk).quiet ?_; conv => whnf)
    | (show AppK _ _ _ 3 _ _ _ _ _; refine app_off hI.row rfl rfl rfl rfl (Plain.of rfl) rfl rfl (by decide) (by have h5_ := hI.len hk; show (_ + 1) * 24 ≤ _; omega) (by have h5_ := hI.len hk; omega) (fun hle_ ca_ ra_ => ?_) (fun hle_ da_ ca_ ra_ => ?_) <;> conv => whnf)
    | (refine br_true (b := decide (0 ≤ (1 : Int) ∧ (1 : Int) ≤ (n1_ : Int))) (decide_eq_true ⟨by decide, by have h5_ := row_sl hr1_; have h6_ : 1 ≤ (boxL k).length := (by rw [boxL_cons]; simp); rw [List.length_map] at h5_; omega⟩) ?_; conv => whnf)
    | (have hf_ := hI.fin (of_decide_eq_false (show decide (i < (3 : Int)) = false by assumption)); have hl_ := hI.len hk; refine CallOK.useR (c_Clone hf_ (by omega)) [1] rfl rfl rfl ⟨⟨⟨_, rfl, .plain rfl (fun _ h_ => by first | exact h_ | cases h_) (RowO.all hf_)⟩⟩, trivial⟩ (fun v_ mem_ hR => ?_); obtain ⟨n2_, c2_, s2_, hr2_, rfl, rfl⟩ := hR; refine ⟨rfl, ?_⟩; conv => whnf)
    | (refine CallOK.useR (c_delete_hil hk hr2_ hf_ (by omega)) [3, 1, 2] rfl rfl rfl ⟨⟨⟨_, rfl, .plain rfl (fun _ h_ => by first | exact h_ | cases h_) (Row.all hr2_)⟩⟩, ⟨⟨_, rfl, .plain rfl (fun _ h_ => by first | exact h_ | cases h_) (RowO.all hf_)⟩⟩, ⟨⟨_, rfl, .lit rfl (fun _ h_ => by first | exact h_ | cases h_) (fun v hv => okB0_spec (allL_spec rfl v hv))⟩⟩, trivial⟩ (fun v_ mem_ hR => ?_); obtain ⟨n3_, s3_, hr3_, rfl, rfl⟩ := hR; refine ⟨rfl, ?_⟩; conv => whnf)
    | (refine CallOK.useR (c_Cone_spots hk (hilI_spl hk) hr3_) [_] rfl rfl rfl ⟨⟨⟨_, rfl, .plain rfl (fun _ h_ => by first | exact h_ | cases h_) (Row.all hr3_)⟩⟩, trivial⟩ (fun v_ mem_ hR => ?_); obtain ⟨n4_, c4_, s4_, L4_, hp_, hs_, hr4_, rfl, rfl⟩ := hR; obtain rfl := hil_eq hk hp_ hs_; refine ⟨rfl, ?_⟩; conv => whnf)
    | (exact out_forget [_] ⟨_, _, _, hr4_, (by have h5_ := row_sl hr4_; have h6_ := hilO_len hk; omega), rfl, rfl⟩ rfl (okB2_spec rfl) ⟨⟨⟨_, rfl, .plain rfl rfl (Row.all hr4_)⟩⟩, trivial⟩ rfl rfl)
    | (refine StoreK.mk rfl ?_; conv => whnf)
    | exact join_same
    | exact (by assumption : (_ : Bool) = (_ : Bool))
    | (refine br_true (by assumption) ?_; conv => whnf)
    | (refine br_false (by assumption) ?_; conv => whnf)
    | (refine br_not ?_; conv => whnf)
    | (refine br_code ?_; conv => whnf)
    | (with_reducible refine br_and ?_; conv => whnf)
    | (with_reducible refine br_or ?_; conv => whnf)
    | (refine br_eq2 ?_; conv => whnf)
    | (refine (c_boxFault_ok ?_).call ?_ <;> conv => whnf)
    | (refine (c_boxFault_ok ?_).quiet ?_ <;> conv => whnf)
    | (refine c_impl_Cone_det.call ?_; conv => whnf)
    | (refine c_impl_Cone_det.quiet ?_; conv => whnf)
    | (refine c_impl_Spot_length.call ?_; conv => whnf)
    | (refine c_impl_Spot_length.quiet ?_; conv => whnf)
    | (refine c_Spot_length.call ?_; conv => whnf)
    | (refine c_Spot_length.quiet ?_; conv => whnf)
    | (refine draw_auto (by decide +kernel) ?_; conv => whnf)
    | (refine draw_asg (by decide +kernel) ?_; conv => whnf)
    | (refine draw_st (by decide +kernel) ?_; conv => whnf)
    | (refine draw_call (by decide +kernel) ?_; conv => whnf)
    | (refine enter_same (loop_n 12 ?_); conv => whnf)
    | (refine next_same ?_; conv => whnf)
    | (refine mapK_row (by assumption) ?_; conv => whnf)
    | (refine mapK_plain (Plain.of rfl) ?_; conv => whnf)
    | (refine mapK_lit ?_; conv => whnf)
    | (refine br_split (fun _ => ?_) (fun _ => ?_) <;> conv => whnf)
    | exact (rfl : (_ : Value) = _)
    | (simp only [*]; exact (rfl : (_ : Value) = _))
    | (simp [*]; done))

end Go.Proofs.Ytndmkibdcfpddaa
