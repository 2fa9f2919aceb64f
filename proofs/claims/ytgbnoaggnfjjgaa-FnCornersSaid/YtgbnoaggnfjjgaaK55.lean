/-
  Contracts of functions of the program (printed by a program of this work; Lean checks each).
  Conditions: as each contract states.
-/
import Derived.Test.YtgbnoaggnfjjgaaK51
import Derived.Test.YtgbnoaggnfjjgaaK5
import Derived.Test.YtgbnoaggnfjjgaaDrw
namespace Go.Proofs.Ytgbnoaggnfjjgaa
open Go.Ev Go.RowKit
set_option maxRecDepth 100000
set_option linter.unusedVariables false
set_option linter.unusedSimpArgs false

set_option maxHeartbeats 1000000 in
theorem c_PickM_L {zs : List Int} {off n c : Nat} {o h : Int} {xs : List Int} (hz : n ≤ zs.length) (hb : ∀ z ∈ zs, IsByte z) (hn : n ≤ 4096) (ha : SrcAt n o) (hl : 1 ≤ xs.length) (hl2 : xs.length ≤ 100) : CallOK Try.prog n_spec_l01Pick [.pointer (some ⟨1, 0, none⟩), .slice (some ⟨2, 0, none⟩) xs.length xs.length] [(away off (bl zs), none), ([.slice (some ⟨0, off, none⟩) n c, ii o, wv h], some t_spec_l01Source), (il xs, none)] (fun v m_ => ∃ y o2 h2, y ∈ xs ∧ SrcAt n o2 ∧ v = ii y ∧ m_ = [(away off (bl zs), none), ([.slice (some ⟨0, off, none⟩) n c, ii o2, wv h2], some t_spec_l01Source), (il xs, none)]) := by
  refine callOK_ofF good fn_spec_l01Pick ?_
  conv => whnf
  all_goals (repeat' first
    | (refine CallOK.useD (c_Next_L hz hb hn (by assumption)) [0, 1] rfl rfl rfl ⟨⟨⟨_, rfl, .lit (away_conc (bl_plain _) _).symm (fun _ h_ => by cases h_) (away_ok (bl_plain _) _)⟩⟩, ⟨⟨_, rfl, .lit rfl (fun _ h_ => h_) (fun v hv => okB0_spec (allL_spec rfl v hv))⟩⟩, trivial⟩ (fun v_ mem_ hR => ?_); obtain ⟨x_, o_, h_, hx_, ha_, rfl, rfl⟩ := hR; refine ⟨rfl, ii x_, fun _ => rfl, ?_⟩; (conv => whnf); refine mapK_eval (cs' := [.slice (some ⟨0, off, none⟩) n c, ii o_, wv h_]) rfl ?_; conv => whnf)
    | (refine br_in (i := x_) (n := xs.length) ?_ ?_ ?_; (focus (have := hx_ (by omega); omega)); (focus (have := hx_ (by omega); omega)); conv => whnf)
    | (refine force_eq (take_il0 (xs := xs) (i := x_.toNat) ?_ ?_) ?_; (focus (simp only [Nat.mul_one, Nat.zero_add]; done)); (focus (have := hx_ (by omega); omega)); conv => whnf)
    | (show OutK _ _ _ _; have hy_ : xs.getD x_.toNat 0 ∈ xs := (getD_mem (show x_.toNat < xs.length from (by have := hx_ (by omega); omega))); (exact out_forget [] ⟨_, _, _, hy_, ha_, rfl, rfl⟩ rfl (okB2_spec rfl) ⟨⟨⟨_, rfl, .lit (away_conc (bl_plain _) _).symm rfl (away_ok (bl_plain _) _)⟩⟩, ⟨⟨_, rfl, .lit rfl rfl (fun v hv => okB0_spec (allL_spec rfl v hv))⟩⟩, ⟨⟨_, rfl, .plain rfl rfl (il_plain _)⟩⟩, trivial⟩ rfl rfl))
    | (refine StoreK.mk rfl ?_; conv => whnf)
    | exact join_same
    | exact (by assumption : (_ : Bool) = (_ : Bool))
    | (refine br_true (by assumption) ?_; conv => whnf)
    | (refine br_false (by assumption) ?_; conv => whnf)
    | (refine br_not ?_; conv => whnf)
    | (refine br_code ?_; conv => whnf)
    | (with_reducible refine br_and ?_; conv => whnf)
    | (with_reducible refine br_or ?_; conv => whnf)
    | (refine br_eq2 ?_; conv => whnf)
    | (refine draw_auto (by decide +kernel) ?_; conv => whnf)
    | (refine draw_asg (by decide +kernel) ?_; conv => whnf)
    | (refine draw_st (by decide +kernel) ?_; conv => whnf)
    | (refine draw_call (by decide +kernel) ?_; conv => whnf)
    | (refine enter_same (loop_n 12 ?_); conv => whnf)
    | (refine next_same ?_; conv => whnf)
    | (refine mapK_row (by assumption) ?_; conv => whnf)
    | (refine mapK_plain (Plain.of rfl) ?_; conv => whnf)
    | (refine mapK_lit ?_; conv => whnf)
    | (refine br_split (fun _ => ?_) (fun _ => ?_) <;> conv => whnf)
    | exact (rfl : (_ : Value) = _)
    | (simp only [*]; exact (rfl : (_ : Value) = _))
    | (simp [*]; done))

set_option maxHeartbeats 1000000 in
theorem c_DrawPoint_L {zs : List Int} {off n c : Nat} {o h m : Int} (hz : n ≤ zs.length) (hb : ∀ z ∈ zs, IsByte z) (hn : n ≤ 4096) (ha : SrcAt n o) : CallOK Try.prog n_spec_l01DrawPoint [.pointer (some ⟨1, 0, none⟩), ii m] [(away off (bl zs), none), ([.slice (some ⟨0, off, none⟩) n c, ii o, wv h], some t_spec_l01Source)] (fun v m_ => ∃ x y o2 h2, (1 ≤ m → m ≤ 900 → sm x 900 ∧ sm y 900) ∧ SrcAt n o2 ∧ v = pt x y ∧ m_ = [(away off (bl zs), none), ([.slice (some ⟨0, off, none⟩) n c, ii o2, wv h2], some t_spec_l01Source)]) := by
  refine callOK_ofF good fn_spec_l01DrawPoint ?_
  conv => whnf
  all_goals (repeat' first
    | (refine CallOK.useD (c_Next_L hz hb hn (by assumption)) [0, 1] rfl rfl rfl ⟨⟨⟨_, rfl, .lit (away_conc (bl_plain _) _).symm (fun _ h_ => by cases h_) (away_ok (bl_plain _) _)⟩⟩, ⟨⟨_, rfl, .lit rfl (fun _ h_ => h_) (fun v hv => okB0_spec (allL_spec rfl v hv))⟩⟩, trivial⟩ (fun v_ mem_ hR => ?_); obtain ⟨x1_, o_, h_, hx1_, ha_, rfl, rfl⟩ := hR; refine ⟨rfl, ii x1_, fun _ => rfl, ?_⟩; (conv => whnf); refine mapK_eval (cs' := [.slice (some ⟨0, off, none⟩) n c, ii o_, wv h_]) rfl ?_; conv => whnf)
    | (show OutK _ _ _ _; (exact out_forget [] ⟨_, _, _, _, draw_sm (by assumption) (by assumption), ha_, rfl, rfl⟩ rfl (okB2_spec rfl) ⟨⟨⟨_, rfl, .lit (away_conc (bl_plain _) _).symm rfl (away_ok (bl_plain _) _)⟩⟩, ⟨⟨_, rfl, .lit rfl rfl (fun v hv => okB0_spec (allL_spec rfl v hv))⟩⟩, trivial⟩ rfl rfl))
    | (refine StoreK.mk rfl ?_; conv => whnf)
    | exact join_same
    | exact (by assumption : (_ : Bool) = (_ : Bool))
    | (refine br_true (by assumption) ?_; conv => whnf)
    | (refine br_false (by assumption) ?_; conv => whnf)
    | (refine br_not ?_; conv => whnf)
    | (refine br_code ?_; conv => whnf)
    | (with_reducible refine br_and ?_; conv => whnf)
    | (with_reducible refine br_or ?_; conv => whnf)
    | (refine br_eq2 ?_; conv => whnf)
    | (refine draw_auto (by decide +kernel) ?_; conv => whnf)
    | (refine draw_asg (by decide +kernel) ?_; conv => whnf)
    | (refine draw_st (by decide +kernel) ?_; conv => whnf)
    | (refine draw_call (by decide +kernel) ?_; conv => whnf)
    | (refine enter_same (loop_n 12 ?_); conv => whnf)
    | (refine next_same ?_; conv => whnf)
    | (refine mapK_row (by assumption) ?_; conv => whnf)
    | (refine mapK_plain (Plain.of rfl) ?_; conv => whnf)
    | (refine mapK_lit ?_; conv => whnf)
    | (refine br_split (fun _ => ?_) (fun _ => ?_) <;> conv => whnf)
    | exact (rfl : (_ : Value) = _)
    | (simp only [*]; exact (rfl : (_ : Value) = _))
    | (simp [*]; done))

set_option maxHeartbeats 1000000 in
theorem c_PickM_N  {o h : Int} {xs : List Int}  (ha : SrcAt 0 o) (hl : 1 ≤ xs.length) (hl2 : xs.length ≤ 100) : CallOK Try.prog n_spec_l01Pick [.pointer (some ⟨0, 0, none⟩), .slice (some ⟨1, 0, none⟩) xs.length xs.length] [([.slice none 0 0, ii o, wv h], some t_spec_l01Source), (il xs, none)] (fun v m_ => ∃ y o2 h2, y ∈ xs ∧ SrcAt 0 o2 ∧ v = ii y ∧ m_ = [([.slice none 0 0, ii o2, wv h2], some t_spec_l01Source), (il xs, none)]) := by
  refine callOK_ofF good fn_spec_l01Pick ?_
  conv => whnf
  all_goals (repeat' first
    | (refine CallOK.useD (c_Next_N (by assumption)) [0] rfl rfl rfl ⟨⟨⟨_, rfl, .lit rfl (fun _ h_ => h_) (fun v hv => okB0_spec (allL_spec rfl v hv))⟩⟩, trivial⟩ (fun v_ mem_ hR => ?_); obtain ⟨x_, o_, h_, hx_, ha_, rfl, rfl⟩ := hR; refine ⟨rfl, ii x_, fun _ => rfl, ?_⟩; (conv => whnf); refine mapK_eval (cs' := [.slice none 0 0, ii o_, wv h_]) rfl ?_; conv => whnf)
    | (refine br_in (i := x_) (n := xs.length) ?_ ?_ ?_; (focus (have := hx_ (by omega); omega)); (focus (have := hx_ (by omega); omega)); conv => whnf)
    | (refine force_eq (take_il0 (xs := xs) (i := x_.toNat) ?_ ?_) ?_; (focus (simp only [Nat.mul_one, Nat.zero_add]; done)); (focus (have := hx_ (by omega); omega)); conv => whnf)
    | (show OutK _ _ _ _; have hy_ : xs.getD x_.toNat 0 ∈ xs := (getD_mem (show x_.toNat < xs.length from (by have := hx_ (by omega); omega))); (exact out_forget [] ⟨_, _, _, hy_, ha_, rfl, rfl⟩ rfl (okB2_spec rfl) ⟨⟨⟨_, rfl, .lit rfl rfl (fun v hv => okB0_spec (allL_spec rfl v hv))⟩⟩, ⟨⟨_, rfl, .plain rfl rfl (il_plain _)⟩⟩, trivial⟩ rfl rfl))
    | (refine StoreK.mk rfl ?_; conv => whnf)
    | exact join_same
    | exact (by assumption : (_ : Bool) = (_ : Bool))
    | (refine br_true (by assumption) ?_; conv => whnf)
    | (refine br_false (by assumption) ?_; conv => whnf)
    | (refine br_not ?_; conv => whnf)
    | (refine br_code ?_; conv => whnf)
    | (with_reducible refine br_and ?_; conv => whnf)
    | (with_reducible refine br_or ?_; conv => whnf)
    | (refine br_eq2 ?_; conv => whnf)
    | (refine draw_auto (by decide +kernel) ?_; conv => whnf)
    | (refine draw_asg (by decide +kernel) ?_; conv => whnf)
    | (refine draw_st (by decide +kernel) ?_; conv => whnf)
    | (refine draw_call (by decide +kernel) ?_; conv => whnf)
    | (refine enter_same (loop_n 12 ?_); conv => whnf)
    | (refine next_same ?_; conv => whnf)
    | (refine mapK_row (by assumption) ?_; conv => whnf)
    | (refine mapK_plain (Plain.of rfl) ?_; conv => whnf)
    | (refine mapK_lit ?_; conv => whnf)
    | (refine br_split (fun _ => ?_) (fun _ => ?_) <;> conv => whnf)
    | exact (rfl : (_ : Value) = _)
    | (simp only [*]; exact (rfl : (_ : Value) = _))
    | (simp [*]; done))

set_option maxHeartbeats 1000000 in
theorem c_DrawPoint_N  {o h m : Int}  (ha : SrcAt 0 o) : CallOK Try.prog n_spec_l01DrawPoint [.pointer (some ⟨0, 0, none⟩), ii m] [([.slice none 0 0, ii o, wv h], some t_spec_l01Source)] (fun v m_ => ∃ x y o2 h2, (1 ≤ m → m ≤ 900 → sm x 900 ∧ sm y 900) ∧ SrcAt 0 o2 ∧ v = pt x y ∧ m_ = [([.slice none 0 0, ii o2, wv h2], some t_spec_l01Source)]) := by
  refine callOK_ofF good fn_spec_l01DrawPoint ?_
  conv => whnf
  all_goals (repeat' first
    | (refine CallOK.useD (c_Next_N (by assumption)) [0] rfl rfl rfl ⟨⟨⟨_, rfl, .lit rfl (fun _ h_ => h_) (fun v hv => okB0_spec (allL_spec rfl v hv))⟩⟩, trivial⟩ (fun v_ mem_ hR => ?_); obtain ⟨x1_, o_, h_, hx1_, ha_, rfl, rfl⟩ := hR; refine ⟨rfl, ii x1_, fun _ => rfl, ?_⟩; (conv => whnf); refine mapK_eval (cs' := [.slice none 0 0, ii o_, wv h_]) rfl ?_; conv => whnf)
    | (show OutK _ _ _ _; (exact out_forget [] ⟨_, _, _, _, draw_sm (by assumption) (by assumption), ha_, rfl, rfl⟩ rfl (okB2_spec rfl) ⟨⟨⟨_, rfl, .lit rfl rfl (fun v hv => okB0_spec (allL_spec rfl v hv))⟩⟩, trivial⟩ rfl rfl))
    | (refine StoreK.mk rfl ?_; conv => whnf)
    | exact join_same
    | exact (by assumption : (_ : Bool) = (_ : Bool))
    | (refine br_true (by assumption) ?_; conv => whnf)
    | (refine br_false (by assumption) ?_; conv => whnf)
    | (refine br_not ?_; conv => whnf)
    | (refine br_code ?_; conv => whnf)
    | (with_reducible refine br_and ?_; conv => whnf)
    | (with_reducible refine br_or ?_; conv => whnf)
    | (refine br_eq2 ?_; conv => whnf)
    | (refine draw_auto (by decide +kernel) ?_; conv => whnf)
    | (refine draw_asg (by decide +kernel) ?_; conv => whnf)
    | (refine draw_st (by decide +kernel) ?_; conv => whnf)
    | (refine draw_call (by decide +kernel) ?_; conv => whnf)
    | (refine enter_same (loop_n 12 ?_); conv => whnf)
    | (refine next_same ?_; conv => whnf)
    | (refine mapK_row (by assumption) ?_; conv => whnf)
    | (refine mapK_plain (Plain.of rfl) ?_; conv => whnf)
    | (refine mapK_lit ?_; conv => whnf)
    | (refine br_split (fun _ => ?_) (fun _ => ?_) <;> conv => whnf)
    | exact (rfl : (_ : Value) = _)
    | (simp only [*]; exact (rfl : (_ : Value) = _))
    | (simp [*]; done))

set_option maxHeartbeats 1000000 in
theorem c_DrawPrim_L {zs : List Int} {off n c : Nat} {o h m : Int} (hz : n ≤ zs.length) (hb : ∀ z ∈ zs, IsByte z) (hn : n ≤ 4096) (ha : SrcAt n o) (hm1 : 1 ≤ m) (hm2 : m ≤ 900) : CallOK Try.prog n_spec_l01DrawPrimitive [.pointer (some ⟨1, 0, none⟩), ii m] [(away off (bl zs), none), ([.slice (some ⟨0, off, none⟩) n c, ii o, wv h], some t_spec_l01Source)] (fun v m_ => ∃ x y o2 h2, Prm x y ∧ SrcAt n o2 ∧ v = pt x y ∧ m_ = [(away off (bl zs), none), ([.slice (some ⟨0, off, none⟩) n c, ii o2, wv h2], some t_spec_l01Source)]) := by
  refine callOK_ofF good fn_spec_l01DrawPrimitive ?_
  conv => whnf
  all_goals (repeat' first
    | (refine part_nz (hp_ hm1 hm2) (nz_a ?_); assumption)
    | (refine part_nz (hp_ hm1 hm2) (nz_b ?_); assumption)
    | (refine CallOK.useD (c_DrawPoint_L hz hb hn (by assumption)) [0, 1] rfl rfl rfl ⟨⟨⟨_, rfl, .lit (away_conc (bl_plain _) _).symm (fun _ h_ => by cases h_) (away_ok (bl_plain _) _)⟩⟩, ⟨⟨_, rfl, .lit rfl (fun _ h_ => h_) (fun v hv => okB0_spec (allL_spec rfl v hv))⟩⟩, trivial⟩ (fun v_ mem_ hR => ?_); obtain ⟨px_, py_, o_, h_, hp_, ha_, rfl, rfl⟩ := hR; refine ⟨rfl, pt px_ py_, fun _ => rfl, ?_⟩; (conv => whnf); refine mapK_eval (cs' := [.slice (some ⟨0, off, none⟩) n c, ii o_, wv h_]) rfl ?_; conv => whnf)
    | (show OutK _ _ _ _; rename decide (py_ = 0) = true => q0_; (exact out_forget [] ⟨_, _, _, _, prm_10, ha_, rfl, rfl⟩ rfl (okB2_spec rfl) ⟨⟨⟨_, rfl, .lit (away_conc (bl_plain _) _).symm rfl (away_ok (bl_plain _) _)⟩⟩, ⟨⟨_, rfl, .lit rfl rfl (fun v hv => okB0_spec (allL_spec rfl v hv))⟩⟩, trivial⟩ rfl rfl))
    | (show OutK _ _ _ _; rename decide (px_ = 0) = false => q0_; (exact out_forget [] ⟨_, _, _, _, part_ok (hp_ hm1 hm2) (nz_a q0_), ha_, rfl, rfl⟩ rfl (okB2_spec rfl) ⟨⟨⟨_, rfl, .lit (away_conc (bl_plain _) _).symm rfl (away_ok (bl_plain _) _)⟩⟩, ⟨⟨_, rfl, .lit rfl rfl (fun v hv => okB0_spec (allL_spec rfl v hv))⟩⟩, trivial⟩ rfl rfl))
    | (show OutK _ _ _ _; rename decide (py_ = 0) = false => q0_; (exact out_forget [] ⟨_, _, _, _, part_ok (hp_ hm1 hm2) (nz_b q0_), ha_, rfl, rfl⟩ rfl (okB2_spec rfl) ⟨⟨⟨_, rfl, .lit (away_conc (bl_plain _) _).symm rfl (away_ok (bl_plain _) _)⟩⟩, ⟨⟨_, rfl, .lit rfl rfl (fun v hv => okB0_spec (allL_spec rfl v hv))⟩⟩, trivial⟩ rfl rfl))
    | (refine StoreK.mk rfl ?_; conv => whnf)
    | exact join_same
    | exact (by assumption : (_ : Bool) = (_ : Bool))
    | (refine br_true (by assumption) ?_; conv => whnf)
    | (refine br_false (by assumption) ?_; conv => whnf)
    | (refine br_not ?_; conv => whnf)
    | (refine br_code ?_; conv => whnf)
    | (with_reducible refine br_and ?_; conv => whnf)
    | (with_reducible refine br_or ?_; conv => whnf)
    | (refine br_eq2 ?_; conv => whnf)
    | (refine (c_spec_l01Part ?_).call ?_ <;> conv => whnf)
    | (refine (c_spec_l01Part ?_).quiet ?_ <;> conv => whnf)
    | (refine draw_auto (by decide +kernel) ?_; conv => whnf)
    | (refine draw_asg (by decide +kernel) ?_; conv => whnf)
    | (refine draw_st (by decide +kernel) ?_; conv => whnf)
    | (refine draw_call (by decide +kernel) ?_; conv => whnf)
    | (refine enter_same (loop_n 12 ?_); conv => whnf)
    | (refine next_same ?_; conv => whnf)
    | (refine mapK_row (by assumption) ?_; conv => whnf)
    | (refine mapK_plain (Plain.of rfl) ?_; conv => whnf)
    | (refine mapK_lit ?_; conv => whnf)
    | (refine br_split (fun _ => ?_) (fun _ => ?_) <;> conv => whnf)
    | exact (rfl : (_ : Value) = _)
    | (simp only [*]; exact (rfl : (_ : Value) = _))
    | (simp [*]; done))

theorem c_Size_L {zs : List Int} {off n c : Nat} {o h : Int} (hz : n ≤ zs.length) (hb : ∀ z ∈ zs, IsByte z) (hn : n ≤ 4096) (ha : SrcAt n o) : CallOK Try.prog n_spec_l01Size [.pointer (some ⟨1, 0, none⟩)] [(away off (bl zs), none), ([.slice (some ⟨0, off, none⟩) n c, ii o, wv h], some t_spec_l01Source)] (fun v m_ => ∃ y o2 h2, SrcAt n o2 ∧ v = ii y ∧ m_ = [(away off (bl zs), none), ([.slice (some ⟨0, off, none⟩) n c, ii o2, wv h2], some t_spec_l01Source)]) := by
  refine callOK_ofF good fn_spec_l01Size ?_
  conv => whnf
  all_goals (repeat' first
    | (refine CallOK.useD (c_Pick_L (xs := [3, 6, 12, 100, 1000, 1000000]) hz hb hn (by assumption) (by decide) (by decide)) [0, 1, 2] rfl rfl rfl ⟨⟨⟨_, rfl, .lit (away_conc (bl_plain _) _).symm (fun _ h_ => by cases h_) (away_ok (bl_plain _) _)⟩⟩, ⟨⟨_, rfl, .lit rfl (fun _ h_ => h_) (fun v hv => okB0_spec (allL_spec rfl v hv))⟩⟩, ⟨⟨_, rfl, .plain rfl (fun _ h_ => by cases h_) (il_plain _)⟩⟩, trivial⟩ (fun v_ mem_ hR => ?_); obtain ⟨y_, o_, h_, ha_, rfl, rfl⟩ := hR; refine ⟨rfl, ii y_, fun _ => rfl, ?_⟩; (conv => whnf); refine mapK_eval (cs' := [.slice (some ⟨0, off, none⟩) n c, ii o_, wv h_]) rfl ?_; conv => whnf)
    | (show OutK _ _ _ _; (exact out_forget [] ⟨_, _, _, ha_, rfl, rfl⟩ rfl (okB2_spec rfl) ⟨⟨⟨_, rfl, .lit (away_conc (bl_plain _) _).symm rfl (away_ok (bl_plain _) _)⟩⟩, ⟨⟨_, rfl, .lit rfl rfl (fun v hv => okB0_spec (allL_spec rfl v hv))⟩⟩, trivial⟩ rfl rfl))
    | (refine StoreK.mk rfl ?_; conv => whnf)
    | exact join_same
    | exact (by assumption : (_ : Bool) = (_ : Bool))
    | (refine br_true (by assumption) ?_; conv => whnf)
    | (refine br_false (by assumption) ?_; conv => whnf)
    | (refine br_not ?_; conv => whnf)
    | (refine br_code ?_; conv => whnf)
    | (with_reducible refine br_and ?_; conv => whnf)
    | (with_reducible refine br_or ?_; conv => whnf)
    | (refine br_eq2 ?_; conv => whnf)
    | (refine draw_auto (by decide +kernel) ?_; conv => whnf)
    | (refine draw_asg (by decide +kernel) ?_; conv => whnf)
    | (refine draw_st (by decide +kernel) ?_; conv => whnf)
    | (refine draw_call (by decide +kernel) ?_; conv => whnf)
    | (refine enter_same (loop_n 12 ?_); conv => whnf)
    | (refine next_same ?_; conv => whnf)
    | (refine mapK_row (by assumption) ?_; conv => whnf)
    | (refine mapK_plain (Plain.of rfl) ?_; conv => whnf)
    | (refine mapK_lit ?_; conv => whnf)
    | (refine br_split (fun _ => ?_) (fun _ => ?_) <;> conv => whnf)
    | exact (rfl : (_ : Value) = _)
    | (simp only [*]; exact (rfl : (_ : Value) = _))
    | (simp [*]; done))

set_option maxHeartbeats 1000000 in
theorem c_DrawUnit_L {zs : List Int} {off n c : Nat} {o h : Int} (hz : n ≤ zs.length) (hb : ∀ z ∈ zs, IsByte z) (hn : n ≤ 4096) (ha : SrcAt n o) : CallOK Try.prog n_spec_l01DrawUnit [.pointer (some ⟨1, 0, none⟩)] [(away off (bl zs), none), ([.slice (some ⟨0, off, none⟩) n c, ii o, wv h], some t_spec_l01Source)] (fun v m_ => ∃ a1 a2 a3 a4 o2 h2, SrcAt n o2 ∧ v = q4 a1 a2 a3 a4 ∧ m_ = [(away off (bl zs), none), ([.slice (some ⟨0, off, none⟩) n c, ii o2, wv h2], some t_spec_l01Source)]) := by
  refine callOK_ofF good fn_spec_l01DrawUnit ?_
  conv => whnf
  all_goals (repeat' first
    | (refine CallOK.useD (c_Next_L hz hb hn hI1.1) [0, 1] rfl rfl rfl ⟨⟨⟨_, rfl, .lit (away_conc (bl_plain _) _).symm (fun _ h_ => by cases h_) (away_ok (bl_plain _) _)⟩⟩, ⟨⟨_, rfl, .lit rfl (fun _ h_ => h_) (fun v hv => okB0_spec (allL_spec rfl v hv))⟩⟩, trivial⟩ (fun v_ mem_ hR => ?_); obtain ⟨x_, o_, h_, hx_, ha_, rfl, rfl⟩ := hR; refine ⟨rfl, ii x_, fun _ => rfl, ?_⟩; (conv => whnf); refine mapK_eval (cs' := [.slice (some ⟨0, off, none⟩) n c, ii o_, wv h_]) rfl ?_; conv => whnf)
    | (refine CallOK.useD (c_Next_L hz hb hn (by assumption)) [0, 1] rfl rfl rfl ⟨⟨⟨_, rfl, .lit (away_conc (bl_plain _) _).symm (fun _ h_ => by cases h_) (away_ok (bl_plain _) _)⟩⟩, ⟨⟨_, rfl, .lit rfl (fun _ h_ => h_) (fun v hv => okB0_spec (allL_spec rfl v hv))⟩⟩, trivial⟩ (fun v_ mem_ hR => ?_); obtain ⟨x_, o_, h_, hx_, ha_, rfl, rfl⟩ := hR; refine ⟨rfl, ii x_, fun _ => rfl, ?_⟩; (conv => whnf); refine mapK_eval (cs' := [.slice (some ⟨0, off, none⟩) n c, ii o_, wv h_]) rfl ?_; conv => whnf)
    | (refine enter_forget [2, 3] (loop_rec (fun (s : Int × Int × Int × Int × Int × Int × Int) => match s with | (n_, o2, h2, a1, a2, a3, a4) => [.pointer (some ⟨1, 0, none⟩), wild, .pointer (some ⟨2, 0, none⟩), .pointer (some ⟨3, 0, none⟩), ii n_, wild, wild, wild, wild, wild, wild, wild, wild, wild, wild, wild, wild, wild, wild, wild, wild, wild, wild, wild, wild, wild, wild, wild, wild, wild, wild, wild, wild, wild, wild, wild, wild, wild, wild, wild, wild, wild]) (fun (s : Int × Int × Int × Int × Int × Int × Int) => match s with | (n_, o2, h2, a1, a2, a3, a4) => [(away off (bl zs), none), ([.slice (some ⟨0, off, none⟩) n c, ii o2, wv h2], some t_spec_l01Source), (ti28.zero, some 28), ([ii a1, ii a2, ii a3, ii a4], some 28)]) (fun (s : Int × Int × Int × Int × Int × Int × Int) => match s with | (n_, o2, h2, a1, a2, a3, a4) => n_.toNat) (fun (s : Int × Int × Int × Int × Int × Int × Int) => match s with | (n_, o2, h2, a1, a2, a3, a4) => SrcAt n o2 ∧ 0 ≤ n_ ∧ n_ ≤ 4) (x_, o_, h_, 1, 0, 0, 1) ⟨ha_, by have := hx_ (by omega); omega⟩ ?_) (tmR_rfl rfl rfl) ⟨⟨⟨_, rfl, .lit (away_conc (bl_plain _) _).symm rfl (away_ok (bl_plain _) _)⟩⟩, ⟨⟨_, rfl, .lit rfl rfl (fun v hv => okB0_spec (allL_spec rfl v hv))⟩⟩, ⟨⟨_, rfl, .plain rfl rfl (by first | exact Plain.of rfl | exact Row.all (by assumption))⟩⟩, ⟨⟨_, rfl, .plain rfl rfl (by first | exact Plain.of rfl | exact Row.all (by assumption))⟩⟩, trivial⟩ rfl rfl; rintro fuel_1 ⟨n_, o2, h2, a1, a2, a3, a4⟩ hI1 IH1; replace hI1 : SrcAt n o2 ∧ 0 ≤ n_ ∧ n_ ≤ 4 := hI1; conv => whnf)
    | exact next_forget [2, 3] (IH1 (w64 (n_ - 1), _, _, _, _, _, _) ⟨ha_, (cnt_down (by omega) hI1.2 (by assumption)).1⟩ (cnt_down (by omega) hI1.2 (by assumption)).2) (tmR_rfl rfl rfl) ⟨⟨⟨_, rfl, .lit (away_conc (bl_plain _) _).symm rfl (away_ok (bl_plain _) _)⟩⟩, ⟨⟨_, rfl, .lit rfl rfl (fun v hv => okB0_spec (allL_spec rfl v hv))⟩⟩, ⟨⟨_, rfl, .plain rfl rfl (by first | exact Plain.of rfl | exact Row.all (by assumption))⟩⟩, ⟨⟨_, rfl, .plain rfl rfl (by first | exact Plain.of rfl | exact Row.all (by assumption))⟩⟩, trivial⟩ rfl rfl
    | (show OutK _ _ _ _; (exact out_forget [] ⟨_, _, _, _, _, _, hI1.1, rfl, rfl⟩ rfl (okB2_spec rfl) ⟨⟨⟨_, rfl, .lit (away_conc (bl_plain _) _).symm rfl (away_ok (bl_plain _) _)⟩⟩, ⟨⟨_, rfl, .lit rfl rfl (fun v hv => okB0_spec (allL_spec rfl v hv))⟩⟩, trivial⟩ rfl rfl))
    | (refine StoreK.mk rfl ?_; conv => whnf)
    | exact join_same
    | exact (by assumption : (_ : Bool) = (_ : Bool))
    | (refine br_true (by assumption) ?_; conv => whnf)
    | (refine br_false (by assumption) ?_; conv => whnf)
    | (refine br_not ?_; conv => whnf)
    | (refine br_code ?_; conv => whnf)
    | (with_reducible refine br_and ?_; conv => whnf)
    | (with_reducible refine br_or ?_; conv => whnf)
    | (refine br_eq2 ?_; conv => whnf)
    | (refine c_spec_l01Times.call ?_; conv => whnf)
    | (refine c_spec_l01Times.quiet ?_; conv => whnf)
    | (refine draw_auto (by decide +kernel) ?_; conv => whnf)
    | (refine draw_asg (by decide +kernel) ?_; conv => whnf)
    | (refine draw_st (by decide +kernel) ?_; conv => whnf)
    | (refine draw_call (by decide +kernel) ?_; conv => whnf)
    | (refine enter_same (loop_n 12 ?_); conv => whnf)
    | (refine next_same ?_; conv => whnf)
    | (refine mapK_row (by assumption) ?_; conv => whnf)
    | (refine mapK_plain (Plain.of rfl) ?_; conv => whnf)
    | (refine mapK_lit ?_; conv => whnf)
    | (refine br_split (fun _ => ?_) (fun _ => ?_) <;> conv => whnf)
    | exact (rfl : (_ : Value) = _)
    | (simp only [*]; exact (rfl : (_ : Value) = _))
    | (simp [*]; done))

set_option maxHeartbeats 1000000 in
theorem c_DrawPrim_N  {o h m : Int}  (ha : SrcAt 0 o) (hm1 : 1 ≤ m) (hm2 : m ≤ 900) : CallOK Try.prog n_spec_l01DrawPrimitive [.pointer (some ⟨0, 0, none⟩), ii m] [([.slice none 0 0, ii o, wv h], some t_spec_l01Source)] (fun v m_ => ∃ x y o2 h2, Prm x y ∧ SrcAt 0 o2 ∧ v = pt x y ∧ m_ = [([.slice none 0 0, ii o2, wv h2], some t_spec_l01Source)]) := by
  refine callOK_ofF good fn_spec_l01DrawPrimitive ?_
  conv => whnf
  all_goals (repeat' first
    | (refine part_nz (hp_ hm1 hm2) (nz_a ?_); assumption)
    | (refine part_nz (hp_ hm1 hm2) (nz_b ?_); assumption)
    | (refine CallOK.useD (c_DrawPoint_N (by assumption)) [0] rfl rfl rfl ⟨⟨⟨_, rfl, .lit rfl (fun _ h_ => h_) (fun v hv => okB0_spec (allL_spec rfl v hv))⟩⟩, trivial⟩ (fun v_ mem_ hR => ?_); obtain ⟨px_, py_, o_, h_, hp_, ha_, rfl, rfl⟩ := hR; refine ⟨rfl, pt px_ py_, fun _ => rfl, ?_⟩; (conv => whnf); refine mapK_eval (cs' := [.slice none 0 0, ii o_, wv h_]) rfl ?_; conv => whnf)
    | (show OutK _ _ _ _; rename decide (py_ = 0) = true => q0_; (exact out_forget [] ⟨_, _, _, _, prm_10, ha_, rfl, rfl⟩ rfl (okB2_spec rfl) ⟨⟨⟨_, rfl, .lit rfl rfl (fun v hv => okB0_spec (allL_spec rfl v hv))⟩⟩, trivial⟩ rfl rfl))
    | (show OutK _ _ _ _; rename decide (px_ = 0) = false => q0_; (exact out_forget [] ⟨_, _, _, _, part_ok (hp_ hm1 hm2) (nz_a q0_), ha_, rfl, rfl⟩ rfl (okB2_spec rfl) ⟨⟨⟨_, rfl, .lit rfl rfl (fun v hv => okB0_spec (allL_spec rfl v hv))⟩⟩, trivial⟩ rfl rfl))
    | (show OutK _ _ _ _; rename decide (py_ = 0) = false => q0_; (exact out_forget [] ⟨_, _, _, _, part_ok (hp_ hm1 hm2) (nz_b q0_), ha_, rfl, rfl⟩ rfl (okB2_spec rfl) ⟨⟨⟨_, rfl, .lit rfl rfl (fun v hv => okB0_spec (allL_spec rfl v hv))⟩⟩, trivial⟩ rfl rfl))
    | (refine StoreK.mk rfl ?_; conv => whnf)
    | exact join_same
    | exact (by assumption : (_ : Bool) = (_ : Bool))
    | (refine br_true (by assumption) ?_; conv => whnf)
    | (refine br_false (by assumption) ?_; conv => whnf)
    | (refine br_not ?_; conv => whnf)
    | (refine br_code ?_; conv => whnf)
    | (with_reducible refine br_and ?_; conv => whnf)
    | (with_reducible refine br_or ?_; conv => whnf)
    | (refine br_eq2 ?_; conv => whnf)
    | (refine (c_spec_l01Part ?_).call ?_ <;> conv => whnf)
    | (refine (c_spec_l01Part ?_).quiet ?_ <;> conv => whnf)
    | (refine draw_auto (by decide +kernel) ?_; conv => whnf)
    | (refine draw_asg (by decide +kernel) ?_; conv => whnf)
    | (refine draw_st (by decide +kernel) ?_; conv => whnf)
    | (refine draw_call (by decide +kernel) ?_; conv => whnf)
    | (refine enter_same (loop_n 12 ?_); conv => whnf)
    | (refine next_same ?_; conv => whnf)
    | (refine mapK_row (by assumption) ?_; conv => whnf)
    | (refine mapK_plain (Plain.of rfl) ?_; conv => whnf)
    | (refine mapK_lit ?_; conv => whnf)
    | (refine br_split (fun _ => ?_) (fun _ => ?_) <;> conv => whnf)
    | exact (rfl : (_ : Value) = _)
    | (simp only [*]; exact (rfl : (_ : Value) = _))
    | (simp [*]; done))

theorem c_Size_N  {o h : Int}  (ha : SrcAt 0 o) : CallOK Try.prog n_spec_l01Size [.pointer (some ⟨0, 0, none⟩)] [([.slice none 0 0, ii o, wv h], some t_spec_l01Source)] (fun v m_ => ∃ y o2 h2, SrcAt 0 o2 ∧ v = ii y ∧ m_ = [([.slice none 0 0, ii o2, wv h2], some t_spec_l01Source)]) := by
  refine callOK_ofF good fn_spec_l01Size ?_
  conv => whnf
  all_goals (repeat' first
    | (refine CallOK.useD (c_Pick_N (xs := [3, 6, 12, 100, 1000, 1000000]) (by assumption) (by decide) (by decide)) [0, 1] rfl rfl rfl ⟨⟨⟨_, rfl, .lit rfl (fun _ h_ => h_) (fun v hv => okB0_spec (allL_spec rfl v hv))⟩⟩, ⟨⟨_, rfl, .plain rfl (fun _ h_ => by cases h_) (il_plain _)⟩⟩, trivial⟩ (fun v_ mem_ hR => ?_); obtain ⟨y_, o_, h_, ha_, rfl, rfl⟩ := hR; refine ⟨rfl, ii y_, fun _ => rfl, ?_⟩; (conv => whnf); refine mapK_eval (cs' := [.slice none 0 0, ii o_, wv h_]) rfl ?_; conv => whnf)
    | (show OutK _ _ _ _; (exact out_forget [] ⟨_, _, _, ha_, rfl, rfl⟩ rfl (okB2_spec rfl) ⟨⟨⟨_, rfl, .lit rfl rfl (fun v hv => okB0_spec (allL_spec rfl v hv))⟩⟩, trivial⟩ rfl rfl))
    | (refine StoreK.mk rfl ?_; conv => whnf)
    | exact join_same
    | exact (by assumption : (_ : Bool) = (_ : Bool))
    | (refine br_true (by assumption) ?_; conv => whnf)
    | (refine br_false (by assumption) ?_; conv => whnf)
    | (refine br_not ?_; conv => whnf)
    | (refine br_code ?_; conv => whnf)
    | (with_reducible refine br_and ?_; conv => whnf)
    | (with_reducible refine br_or ?_; conv => whnf)
    | (refine br_eq2 ?_; conv => whnf)
    | (refine draw_auto (by decide +kernel) ?_; conv => whnf)
    | (refine draw_asg (by decide +kernel) ?_; conv => whnf)
    | (refine draw_st (by decide +kernel) ?_; conv => whnf)
    | (refine draw_call (by decide +kernel) ?_; conv => whnf)
    | (refine enter_same (loop_n 12 ?_); conv => whnf)
    | (refine next_same ?_; conv => whnf)
    | (refine mapK_row (by assumption) ?_; conv => whnf)
    | (refine mapK_plain (Plain.of rfl) ?_; conv => whnf)
    | (refine mapK_lit ?_; conv => whnf)
    | (refine br_split (fun _ => ?_) (fun _ => ?_) <;> conv => whnf)
    | exact (rfl : (_ : Value) = _)
    | (simp only [*]; exact (rfl : (_ : Value) = _))
    | (simp [*]; done))

set_option maxHeartbeats 1000000 in
theorem c_DrawUnit_N  {o h : Int}  (ha : SrcAt 0 o) : CallOK Try.prog n_spec_l01DrawUnit [.pointer (some ⟨0, 0, none⟩)] [([.slice none 0 0, ii o, wv h], some t_spec_l01Source)] (fun v m_ => ∃ a1 a2 a3 a4 o2 h2, SrcAt 0 o2 ∧ v = q4 a1 a2 a3 a4 ∧ m_ = [([.slice none 0 0, ii o2, wv h2], some t_spec_l01Source)]) := by
  refine callOK_ofF good fn_spec_l01DrawUnit ?_
  conv => whnf
  all_goals (repeat' first
    | (refine CallOK.useD (c_Next_N hI1.1) [0] rfl rfl rfl ⟨⟨⟨_, rfl, .lit rfl (fun _ h_ => h_) (fun v hv => okB0_spec (allL_spec rfl v hv))⟩⟩, trivial⟩ (fun v_ mem_ hR => ?_); obtain ⟨x_, o_, h_, hx_, ha_, rfl, rfl⟩ := hR; refine ⟨rfl, ii x_, fun _ => rfl, ?_⟩; (conv => whnf); refine mapK_eval (cs' := [.slice none 0 0, ii o_, wv h_]) rfl ?_; conv => whnf)
    | (refine CallOK.useD (c_Next_N (by assumption)) [0] rfl rfl rfl ⟨⟨⟨_, rfl, .lit rfl (fun _ h_ => h_) (fun v hv => okB0_spec (allL_spec rfl v hv))⟩⟩, trivial⟩ (fun v_ mem_ hR => ?_); obtain ⟨x_, o_, h_, hx_, ha_, rfl, rfl⟩ := hR; refine ⟨rfl, ii x_, fun _ => rfl, ?_⟩; (conv => whnf); refine mapK_eval (cs' := [.slice none 0 0, ii o_, wv h_]) rfl ?_; conv => whnf)
    | (refine enter_forget [1, 2] (loop_rec (fun (s : Int × Int × Int × Int × Int × Int × Int) => match s with | (n_, o2, h2, a1, a2, a3, a4) => [.pointer (some ⟨0, 0, none⟩), wild, .pointer (some ⟨1, 0, none⟩), .pointer (some ⟨2, 0, none⟩), ii n_, wild, wild, wild, wild, wild, wild, wild, wild, wild, wild, wild, wild, wild, wild, wild, wild, wild, wild, wild, wild, wild, wild, wild, wild, wild, wild, wild, wild, wild, wild, wild, wild, wild, wild, wild, wild, wild]) (fun (s : Int × Int × Int × Int × Int × Int × Int) => match s with | (n_, o2, h2, a1, a2, a3, a4) => [([.slice none 0 0, ii o2, wv h2], some t_spec_l01Source), (ti28.zero, some 28), ([ii a1, ii a2, ii a3, ii a4], some 28)]) (fun (s : Int × Int × Int × Int × Int × Int × Int) => match s with | (n_, o2, h2, a1, a2, a3, a4) => n_.toNat) (fun (s : Int × Int × Int × Int × Int × Int × Int) => match s with | (n_, o2, h2, a1, a2, a3, a4) => SrcAt 0 o2 ∧ 0 ≤ n_ ∧ n_ ≤ 4) (x_, o_, h_, 1, 0, 0, 1) ⟨ha_, by have := hx_ (by omega); omega⟩ ?_) (tmR_rfl rfl rfl) ⟨⟨⟨_, rfl, .lit rfl rfl (fun v hv => okB0_spec (allL_spec rfl v hv))⟩⟩, ⟨⟨_, rfl, .plain rfl rfl (by first | exact Plain.of rfl | exact Row.all (by assumption))⟩⟩, ⟨⟨_, rfl, .plain rfl rfl (by first | exact Plain.of rfl | exact Row.all (by assumption))⟩⟩, trivial⟩ rfl rfl; rintro fuel_1 ⟨n_, o2, h2, a1, a2, a3, a4⟩ hI1 IH1; replace hI1 : SrcAt 0 o2 ∧ 0 ≤ n_ ∧ n_ ≤ 4 := hI1; conv => whnf)
    | exact next_forget [1, 2] (IH1 (w64 (n_ - 1), _, _, _, _, _, _) ⟨ha_, (cnt_down (by omega) hI1.2 (by assumption)).1⟩ (cnt_down (by omega) hI1.2 (by assumption)).2) (tmR_rfl rfl rfl) ⟨⟨⟨_, rfl, .lit rfl rfl (fun v hv => okB0_spec (allL_spec rfl v hv))⟩⟩, ⟨⟨_, rfl, .plain rfl rfl (by first | exact Plain.of rfl | exact Row.all (by assumption))⟩⟩, ⟨⟨_, rfl, .plain rfl rfl (by first | exact Plain.of rfl | exact Row.all (by assumption))⟩⟩, trivial⟩ rfl rfl
    | (show OutK _ _ _ _; (exact out_forget [] ⟨_, _, _, _, _, _, hI1.1, rfl, rfl⟩ rfl (okB2_spec rfl) ⟨⟨⟨_, rfl, .lit rfl rfl (fun v hv => okB0_spec (allL_spec rfl v hv))⟩⟩, trivial⟩ rfl rfl))
    | (refine StoreK.mk rfl ?_; conv => whnf)
    | exact join_same
    | exact (by assumption : (_ : Bool) = (_ : Bool))
    | (refine br_true (by assumption) ?_; conv => whnf)
    | (refine br_false (by assumption) ?_; conv => whnf)
    | (refine br_not ?_; conv => whnf)
    | (refine br_code ?_; conv => whnf)
    | (with_reducible refine br_and ?_; conv => whnf)
    | (with_reducible refine br_or ?_; conv => whnf)
    | (refine br_eq2 ?_; conv => whnf)
    | (refine c_spec_l01Times.call ?_; conv => whnf)
    | (refine c_spec_l01Times.quiet ?_; conv => whnf)
    | (refine draw_auto (by decide +kernel) ?_; conv => whnf)
    | (refine draw_asg (by decide +kernel) ?_; conv => whnf)
    | (refine draw_st (by decide +kernel) ?_; conv => whnf)
    | (refine draw_call (by decide +kernel) ?_; conv => whnf)
    | (refine enter_same (loop_n 12 ?_); conv => whnf)
    | (refine next_same ?_; conv => whnf)
    | (refine mapK_row (by assumption) ?_; conv => whnf)
    | (refine mapK_plain (Plain.of rfl) ?_; conv => whnf)
    | (refine mapK_lit ?_; conv => whnf)
    | (refine br_split (fun _ => ?_) (fun _ => ?_) <;> conv => whnf)
    | exact (rfl : (_ : Value) = _)
    | (simp only [*]; exact (rfl : (_ : Value) = _))
    | (simp [*]; done))

end Go.Proofs.Ytgbnoaggnfjjgaa
