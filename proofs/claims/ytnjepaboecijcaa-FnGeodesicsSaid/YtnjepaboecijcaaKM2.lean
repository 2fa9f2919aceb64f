/-
  Several texts of this work in one (a claim holds at most 60 files).
  Conditions: as each contract states.
-/
import Derived.Test.YtnjepaboecijcaaKM1
import Derived.Test.YtnjepaboecijcaaK8
import Derived.Test.YtnjepaboecijcaaArg
section
/-
  Contracts of functions of the program (printed by a program of this work; Lean checks each).
  Conditions: as each contract states.
-/
namespace Go.Proofs.Ytnjepaboecijcaa
open Go.Ev Go.RowKit
set_option maxRecDepth 100000
set_option linter.unusedVariables false
set_option linter.unusedSimpArgs false

theorem draw_smB {m x y : Int} (hx : Below1 (w64 (w64 (2 * m) + 1)) x) (hy : Below1 (w64 (w64 (2 * m) + 1)) y) : 1 ≤ m → m ≤ 1000000 → sm (w64 (x - m)) 1000000 ∧ sm (w64 (y - m)) 1000000 := by
  intro h1 h2
  unfold Below1 at hx hy
  rw [w64_in (n := 2 * m) (by omega) (by omega), w64_in (n := 2 * m + 1) (by omega) (by omega)] at hx hy
  have := hx (by omega); have := hy (by omega)
  unfold sm
  rw [w64_in (n := x - m) (by omega) (by omega), w64_in (n := y - m) (by omega) (by omega)]
  omega
theorem part_nzB {a b : Int} (h : sm a 1000000 ∧ sm b 1000000) (h0 : ¬ (a = 0 ∧ b = 0)) : decide (gcdF a b = 0) = false := by
  obtain ⟨h1, h2⟩ := h
  unfold sm at h1 h2
  exact decide_eq_false fun he => h0 ((gcdF_zero (by omega) (by omega)).1 he)
theorem mostB {y : Int} (h : y ∈ [3, 6, 12, 100, 1000, 1000000] ∨ y ∈ [3, 12, 100] ∨ y ∈ [3, 12, 100, 1000]) : 1 ≤ y ∧ y ≤ 1000000 := by
  simp only [List.mem_cons, List.not_mem_nil, or_false] at h
  omega

attribute [local irreducible] gcdF

set_option maxHeartbeats 1000000 in
theorem c_DrawPtB_L {zs : List Int} {off n c : Nat} {o h m : Int} (hz : n ≤ zs.length) (hb : ∀ z ∈ zs, IsByte z) (hn : n ≤ 4096) (ha : SrcAt n o) : CallOK Try.prog n_spec_l01DrawPoint [.pointer (some ⟨1, 0, none⟩), ii m] [(away off (bl zs), none), ([.slice (some ⟨0, off, none⟩) n c, ii o, wv h], some t_spec_l01Source)] (fun v m_ => ∃ x y o2 h2, (1 ≤ m → m ≤ 1000000 → sm x 1000000 ∧ sm y 1000000) ∧ SrcAt n o2 ∧ v = pt x y ∧ m_ = [(away off (bl zs), none), ([.slice (some ⟨0, off, none⟩) n c, ii o2, wv h2], some t_spec_l01Source)]) := by
  refine callOK_ofF good fn_spec_l01DrawPoint ?_
  conv => whnf
  all_goals (repeat' first
    | (refine CallOK.useD (c_Next_L hz hb hn (by assumption)) [0, 1] rfl rfl rfl ⟨⟨⟨_, rfl, .lit (away_conc (bl_plain _) _).symm (fun _ h_ => by cases h_) (away_ok (bl_plain _) _)⟩⟩, ⟨⟨_, rfl, .lit rfl (fun _ h_ => h_) (fun v hv => okB0_spec (allL_spec rfl v hv))⟩⟩, trivial⟩ (fun v_ mem_ hR => ?_); obtain ⟨x1_, o_, h_, hx1_, ha_, rfl, rfl⟩ := hR; refine ⟨rfl, ii x1_, fun _ => rfl, ?_⟩; (conv => whnf); refine mapK_eval (cs' := [.slice (some ⟨0, off, none⟩) n c, ii o_, wv h_]) rfl ?_; conv => whnf)
    | (show OutK _ _ _ _; (exact out_forget [] ⟨_, _, _, _, draw_smB (by assumption) (by assumption), ha_, rfl, rfl⟩ rfl (okB2_spec rfl) ⟨⟨⟨_, rfl, .lit (away_conc (bl_plain _) _).symm rfl (away_ok (bl_plain _) _)⟩⟩, ⟨⟨_, rfl, .lit rfl rfl (fun v hv => okB0_spec (allL_spec rfl v hv))⟩⟩, trivial⟩ rfl rfl))
    | (refine StoreK.mk rfl ?_; conv => whnf)
    | exact join_same
    | exact (by assumption : (_ : Bool) = (_ : Bool))
    | (refine br_true (by assumption) ?_; conv => whnf)
    | (refine br_false (by assumption) ?_; conv => whnf)
    | (refine br_not ?_; conv => whnf)
    | (refine br_code ?_; conv => whnf)
    | (with_reducible refine br_and ?_; conv => whnf)
    | (with_reducible refine br_or ?_; conv => whnf)
    | (refine br_eq2 ?_; conv => whnf)
    | (refine draw_auto (by decide +kernel) ?_; conv => whnf)
    | (refine draw_asg (by decide +kernel) ?_; conv => whnf)
    | (refine draw_st (by decide +kernel) ?_; conv => whnf)
    | (refine draw_call (by decide +kernel) ?_; conv => whnf)
    | (refine enter_same (loop_n 12 ?_); conv => whnf)
    | (refine next_same ?_; conv => whnf)
    | (refine mapK_row (by assumption) ?_; conv => whnf)
    | (refine mapK_plain (Plain.of rfl) ?_; conv => whnf)
    | (refine mapK_lit ?_; conv => whnf)
    | (refine br_split (fun _ => ?_) (fun _ => ?_) <;> conv => whnf)
    | exact (rfl : (_ : Value) = _)
    | (simp only [*]; exact (rfl : (_ : Value) = _))
    | (simp [*]; done))

set_option maxHeartbeats 1000000 in
theorem c_DrawPrB_L {zs : List Int} {off n c : Nat} {o h m : Int} (hz : n ≤ zs.length) (hb : ∀ z ∈ zs, IsByte z) (hn : n ≤ 4096) (ha : SrcAt n o) (hm1 : 1 ≤ m) (hm2 : m ≤ 1000000) : CallOK Try.prog n_spec_l01DrawPrimitive [.pointer (some ⟨1, 0, none⟩), ii m] [(away off (bl zs), none), ([.slice (some ⟨0, off, none⟩) n c, ii o, wv h], some t_spec_l01Source)] (fun v m_ => ∃ x y o2 h2, SrcAt n o2 ∧ v = pt x y ∧ m_ = [(away off (bl zs), none), ([.slice (some ⟨0, off, none⟩) n c, ii o2, wv h2], some t_spec_l01Source)]) := by
  refine callOK_ofF good fn_spec_l01DrawPrimitive ?_
  conv => whnf
  all_goals (repeat' first
    | (refine part_nzB (hp_ hm1 hm2) (nz_a ?_); assumption)
    | (refine part_nzB (hp_ hm1 hm2) (nz_b ?_); assumption)
    | (refine CallOK.useD (c_DrawPtB_L hz hb hn (by assumption)) [0, 1] rfl rfl rfl ⟨⟨⟨_, rfl, .lit (away_conc (bl_plain _) _).symm (fun _ h_ => by cases h_) (away_ok (bl_plain _) _)⟩⟩, ⟨⟨_, rfl, .lit rfl (fun _ h_ => h_) (fun v hv => okB0_spec (allL_spec rfl v hv))⟩⟩, trivial⟩ (fun v_ mem_ hR => ?_); obtain ⟨px_, py_, o_, h_, hp_, ha_, rfl, rfl⟩ := hR; refine ⟨rfl, pt px_ py_, fun _ => rfl, ?_⟩; (conv => whnf); refine mapK_eval (cs' := [.slice (some ⟨0, off, none⟩) n c, ii o_, wv h_]) rfl ?_; conv => whnf)
    | (show OutK _ _ _ _; (exact out_forget [] ⟨_, _, _, _, ha_, rfl, rfl⟩ rfl (okB2_spec rfl) ⟨⟨⟨_, rfl, .lit (away_conc (bl_plain _) _).symm rfl (away_ok (bl_plain _) _)⟩⟩, ⟨⟨_, rfl, .lit rfl rfl (fun v hv => okB0_spec (allL_spec rfl v hv))⟩⟩, trivial⟩ rfl rfl))
    | (refine StoreK.mk rfl ?_; conv => whnf)
    | exact join_same
    | exact (by assumption : (_ : Bool) = (_ : Bool))
    | (refine br_true (by assumption) ?_; conv => whnf)
    | (refine br_false (by assumption) ?_; conv => whnf)
    | (refine br_not ?_; conv => whnf)
    | (refine br_code ?_; conv => whnf)
    | (with_reducible refine br_and ?_; conv => whnf)
    | (with_reducible refine br_or ?_; conv => whnf)
    | (refine br_eq2 ?_; conv => whnf)
    | (refine (c_spec_l01Part ?_).call ?_ <;> conv => whnf)
    | (refine (c_spec_l01Part ?_).quiet ?_ <;> conv => whnf)
    | (refine draw_auto (by decide +kernel) ?_; conv => whnf)
    | (refine draw_asg (by decide +kernel) ?_; conv => whnf)
    | (refine draw_st (by decide +kernel) ?_; conv => whnf)
    | (refine draw_call (by decide +kernel) ?_; conv => whnf)
    | (refine enter_same (loop_n 12 ?_); conv => whnf)
    | (refine next_same ?_; conv => whnf)
    | (refine mapK_row (by assumption) ?_; conv => whnf)
    | (refine mapK_plain (Plain.of rfl) ?_; conv => whnf)
    | (refine mapK_lit ?_; conv => whnf)
    | (refine br_split (fun _ => ?_) (fun _ => ?_) <;> conv => whnf)
    | exact (rfl : (_ : Value) = _)
    | (simp only [*]; exact (rfl : (_ : Value) = _))
    | (simp [*]; done))

set_option maxHeartbeats 1000000 in
theorem c_DrawOf5_L {zs : List Int} {off n c : Nat} {o h m : Int} (hz : n ≤ zs.length) (hb : ∀ z ∈ zs, IsByte z) (hn : n ≤ 4096) (ha : SrcAt n o) (hm1 : 1 ≤ m) (hm2 : m ≤ 1000000) : CallOK Try.prog n_spec_l05DrawOf [.pointer (some ⟨1, 0, none⟩), ii m] [(away off (bl zs), none), ([.slice (some ⟨0, off, none⟩) n c, ii o, wv h], some t_spec_l01Source)] (fun v m_ => ∃ x y o2 h2, SrcAt n o2 ∧ v = pt x y ∧ m_ = [(away off (bl zs), none), ([.slice (some ⟨0, off, none⟩) n c, ii o2, wv h2], some t_spec_l01Source)]) := by
  refine callOK_ofF good fn_spec_l05DrawOf ?_
  conv => whnf
  all_goals (repeat' first
    | (refine CallOK.useD (c_DrawPrB_L hz hb hn (by assumption) hm1 hm2) [0, 1] rfl rfl rfl ⟨⟨⟨_, rfl, .lit (away_conc (bl_plain _) _).symm (fun _ h_ => by cases h_) (away_ok (bl_plain _) _)⟩⟩, ⟨⟨_, rfl, .lit rfl (fun _ h_ => h_) (fun v hv => okB0_spec (allL_spec rfl v hv))⟩⟩, trivial⟩ (fun v_ mem_ hR => ?_); obtain ⟨px_, py_, o_, h_, ha_, rfl, rfl⟩ := hR; refine ⟨rfl, pt px_ py_, fun _ => rfl, ?_⟩; (conv => whnf); refine mapK_eval (cs' := [.slice (some ⟨0, off, none⟩) n c, ii o_, wv h_]) rfl ?_; conv => whnf)
    | (show OutK _ _ _ _; (exact out_forget [] ⟨_, _, _, _, ha_, rfl, rfl⟩ rfl (okB2_spec rfl) ⟨⟨⟨_, rfl, .lit (away_conc (bl_plain _) _).symm rfl (away_ok (bl_plain _) _)⟩⟩, ⟨⟨_, rfl, .lit rfl rfl (fun v hv => okB0_spec (allL_spec rfl v hv))⟩⟩, trivial⟩ rfl rfl))
    | (refine StoreK.mk rfl ?_; conv => whnf)
    | exact join_same
    | exact (by assumption : (_ : Bool) = (_ : Bool))
    | (refine br_true (by assumption) ?_; conv => whnf)
    | (refine br_false (by assumption) ?_; conv => whnf)
    | (refine br_not ?_; conv => whnf)
    | (refine br_code ?_; conv => whnf)
    | (with_reducible refine br_and ?_; conv => whnf)
    | (with_reducible refine br_or ?_; conv => whnf)
    | (refine br_eq2 ?_; conv => whnf)
    | (refine c_spec_l05Turn.call ?_; conv => whnf)
    | (refine c_spec_l05Turn.quiet ?_; conv => whnf)
    | (refine draw_auto (by decide +kernel) ?_; conv => whnf)
    | (refine draw_asg (by decide +kernel) ?_; conv => whnf)
    | (refine draw_st (by decide +kernel) ?_; conv => whnf)
    | (refine draw_call (by decide +kernel) ?_; conv => whnf)
    | (refine enter_same (loop_n 12 ?_); conv => whnf)
    | (refine next_same ?_; conv => whnf)
    | (refine mapK_row (by assumption) ?_; conv => whnf)
    | (refine mapK_plain (Plain.of rfl) ?_; conv => whnf)
    | (refine mapK_lit ?_; conv => whnf)
    | (refine br_split (fun _ => ?_) (fun _ => ?_) <;> conv => whnf)
    | exact (rfl : (_ : Value) = _)
    | (simp only [*]; exact (rfl : (_ : Value) = _))
    | (simp [*]; done))

set_option maxHeartbeats 1000000 in
theorem c_Bad5_L {zs : List Int} {off n c : Nat} {o h a b : Int} (hz : n ≤ zs.length) (hb : ∀ z ∈ zs, IsByte z) (hn : n ≤ 4096) (ha : SrcAt n o) : CallOK Try.prog n_spec_l01Bad [.pointer (some ⟨1, 0, none⟩), pt a b] [(away off (bl zs), none), ([.slice (some ⟨0, off, none⟩) n c, ii o, wv h], some t_spec_l01Source)] (fun v m_ => ∃ x y o2 h2, SrcAt n o2 ∧ v = pt x y ∧ m_ = [(away off (bl zs), none), ([.slice (some ⟨0, off, none⟩) n c, ii o2, wv h2], some t_spec_l01Source)]) := by
  refine callOK_ofF good fn_spec_l01Bad ?_
  conv => whnf
  all_goals (repeat' first
    | (refine CallOK.useD (c_Next_L (m := 40) hz hb hn (by assumption)) [0, 1] rfl rfl rfl ⟨⟨⟨_, rfl, .lit (away_conc (bl_plain _) _).symm (fun _ h_ => by cases h_) (away_ok (bl_plain _) _)⟩⟩, ⟨⟨_, rfl, .lit rfl (fun _ h_ => h_) (fun v hv => okB0_spec (allL_spec rfl v hv))⟩⟩, trivial⟩ (fun v_ mem_ hR => ?_); obtain ⟨x40_, o_, h_, hx40_, ha_, rfl, rfl⟩ := hR; refine ⟨rfl, ii x40_, fun _ => rfl, ?_⟩; (conv => whnf); refine mapK_eval (cs' := [.slice (some ⟨0, off, none⟩) n c, ii o_, wv h_]) rfl ?_; conv => whnf)
    | (refine CallOK.useD (c_Next_L (m := 2) hz hb hn (by assumption)) [0, 1] rfl rfl rfl ⟨⟨⟨_, rfl, .lit (away_conc (bl_plain _) _).symm (fun _ h_ => by cases h_) (away_ok (bl_plain _) _)⟩⟩, ⟨⟨_, rfl, .lit rfl (fun _ h_ => h_) (fun v hv => okB0_spec (allL_spec rfl v hv))⟩⟩, trivial⟩ (fun v_ mem_ hR => ?_); obtain ⟨x2_, o_, h_, hx2_, ha_, rfl, rfl⟩ := hR; refine ⟨rfl, ii x2_, fun _ => rfl, ?_⟩; (conv => whnf); refine mapK_eval (cs' := [.slice (some ⟨0, off, none⟩) n c, ii o_, wv h_]) rfl ?_; conv => whnf)
    | (refine CallOK.useD (c_Pick_L (xs := [1000001, -1000001, 1099511627776]) hz hb hn (by assumption) (by decide) (by decide)) [0, 1, 4] rfl rfl rfl ⟨⟨⟨_, rfl, .lit (away_conc (bl_plain _) _).symm (fun _ h_ => by cases h_) (away_ok (bl_plain _) _)⟩⟩, ⟨⟨_, rfl, .lit rfl (fun _ h_ => h_) (fun v hv => okB0_spec (allL_spec rfl v hv))⟩⟩, ⟨⟨_, rfl, .plain rfl (fun _ h_ => by cases h_) (il_plain _)⟩⟩, trivial⟩ (fun v_ mem_ hR => ?_); obtain ⟨y_, o_, h_, ha_, rfl, rfl⟩ := hR; refine ⟨rfl, ii y_, fun _ => rfl, ?_⟩; (conv => whnf); refine mapK_eval (cs' := [.slice (some ⟨0, off, none⟩) n c, ii o_, wv h_]) rfl ?_; conv => whnf)
    | (show brK (decide (0 ≤ x2_ ∧ x2_ < _)) _ _; rcases two_of hx2_ with rfl | rfl <;> conv => whnf)
    | (show OutK _ _ _ _; (exact out_forget [] ⟨_, _, _, _, ha_, rfl, rfl⟩ rfl (okB2_spec rfl) ⟨⟨⟨_, rfl, .lit (away_conc (bl_plain _) _).symm rfl (away_ok (bl_plain _) _)⟩⟩, ⟨⟨_, rfl, .lit rfl rfl (fun v hv => okB0_spec (allL_spec rfl v hv))⟩⟩, trivial⟩ rfl rfl))
    | (refine StoreK.mk rfl ?_; conv => whnf)
    | exact join_same
    | exact (by assumption : (_ : Bool) = (_ : Bool))
    | (refine br_true (by assumption) ?_; conv => whnf)
    | (refine br_false (by assumption) ?_; conv => whnf)
    | (refine br_not ?_; conv => whnf)
    | (refine br_code ?_; conv => whnf)
    | (with_reducible refine br_and ?_; conv => whnf)
    | (with_reducible refine br_or ?_; conv => whnf)
    | (refine br_eq2 ?_; conv => whnf)
    | (refine draw_auto (by decide +kernel) ?_; conv => whnf)
    | (refine draw_asg (by decide +kernel) ?_; conv => whnf)
    | (refine draw_st (by decide +kernel) ?_; conv => whnf)
    | (refine draw_call (by decide +kernel) ?_; conv => whnf)
    | (refine enter_same (loop_n 12 ?_); conv => whnf)
    | (refine next_same ?_; conv => whnf)
    | (refine mapK_row (by assumption) ?_; conv => whnf)
    | (refine mapK_plain (Plain.of rfl) ?_; conv => whnf)
    | (refine mapK_lit ?_; conv => whnf)
    | (refine br_split (fun _ => ?_) (fun _ => ?_) <;> conv => whnf)
    | exact (rfl : (_ : Value) = _)
    | (simp only [*]; exact (rfl : (_ : Value) = _))
    | (simp [*]; done))

set_option maxHeartbeats 2000000 in
theorem c_Draw5_L {zs : List Int} {off n c : Nat} {o h : Int} (hz : n ≤ zs.length) (hb : ∀ z ∈ zs, IsByte z) (hn : n ≤ 4096) (ha : SrcAt n o) : CallOK Try.prog n_spec_l05Draw [.pointer (some ⟨1, 0, none⟩)] [(away off (bl zs), none), ([.slice (some ⟨0, off, none⟩) n c, ii o, wv h], some t_spec_l01Source)] (fun v m_ => ∃ x y o2 h2, SrcAt n o2 ∧ v = pt x y ∧ m_ = [(away off (bl zs), none), ([.slice (some ⟨0, off, none⟩) n c, ii o2, wv h2], some t_spec_l01Source)]) := by
  refine callOK_ofF good fn_spec_l05Draw ?_
  conv => whnf
  all_goals (repeat' first
    | (refine draw_pt (.take 1 (.duo 0 (.solo 2 (.solo 3 (.solo 4 .done))) 2 (.solo 0 (.solo 3 (.solo 4 .done))))) (by decide +kernel) ?_; conv => whnf)
    | (refine draw_pt (.join [1, 0, 2] (.duo 0 (.duo 1 (.solo 2 .done) 2 (.solo 1 .done)) 1 (.solo 0 (.solo 2 .done))) (.solo 3 .done)) (by decide +kernel) ?_; conv => whnf)
    | (refine draw_pt (.take 0 (.duo 1 (.duo 2 (.solo 3 (.solo 4 .done)) 3 (.solo 2 (.solo 4 .done))) 2 (.solo 1 (.solo 3 (.solo 4 .done))))) (by decide +kernel) ?_; conv => whnf)
    | (refine draw_pt (.take 0 (.take 2 (.duo 1 (.solo 3 (.solo 4 (.solo 5 (.solo 6 .done)))) 3 (.duo 1 (.solo 4 (.solo 5 (.solo 6 .done))) 4 (.solo 1 (.solo 5 (.solo 6 .done))))))) (by decide +kernel) ?_; conv => whnf)
    | (refine draw_pt (.take 1 (.take 2 (.duo 0 (.solo 3 (.solo 4 (.solo 5 (.solo 6 (.solo 7 .done))))) 3 (.duo 0 (.solo 4 (.solo 5 (.solo 6 (.solo 7 .done)))) 4 (.duo 0 (.solo 5 (.solo 6 (.solo 7 .done))) 5 (.solo 0 (.solo 6 (.solo 7 .done)))))))) (by decide +kernel) ?_; conv => whnf)
    | (refine draw_pt (.take 3 (.trio 0 (.trio 1 (.trio 2 (.duo 4 (.take 5 (.duo 6 (.duo 7 (.solo 8 (.solo 9 .done)) 8 (.solo 7 (.solo 9 .done))) 8 (.solo 6 (.solo 7 (.solo 9 .done))))) 8 (.solo 4 (.take 5 (.solo 6 (.solo 7 (.solo 9 .done)))))) 4 (.take 5 (.duo 2 (.duo 6 (.duo 7 (.solo 8 (.solo 9 .done)) 8 (.solo 7 (.solo 9 .done))) 8 (.solo 6 (.solo 7 (.solo 9 .done)))) 8 (.solo 2 (.solo 6 (.solo 7 (.solo 9 .done)))))) 8 (.duo 2 (.solo 4 (.take 5 (.solo 6 (.solo 7 (.solo 9 .done))))) 4 (.take 5 (.solo 2 (.solo 6 (.solo 7 (.solo 9 .done))))))) 2 (.duo 1 (.duo 4 (.take 5 (.duo 6 (.duo 7 (.solo 8 (.solo 9 .done)) 8 (.solo 7 (.solo 9 .done))) 8 (.solo 6 (.solo 7 (.solo 9 .done))))) 8 (.solo 4 (.take 5 (.solo 6 (.solo 7 (.solo 9 .done)))))) 8 (.solo 1 (.solo 4 (.take 5 (.solo 6 (.solo 7 (.solo 9 .done))))))) 8 (.duo 1 (.duo 2 (.solo 4 (.take 5 (.solo 6 (.solo 7 (.solo 9 .done))))) 4 (.take 5 (.solo 2 (.solo 6 (.solo 7 (.solo 9 .done)))))) 2 (.solo 1 (.solo 4 (.take 5 (.solo 6 (.solo 7 (.solo 9 .done)))))))) 2 (.duo 0 (.duo 1 (.duo 4 (.take 5 (.duo 6 (.duo 7 (.solo 8 (.solo 9 .done)) 8 (.solo 7 (.solo 9 .done))) 8 (.solo 6 (.solo 7 (.solo 9 .done))))) 8 (.solo 4 (.take 5 (.solo 6 (.solo 7 (.solo 9 .done)))))) 8 (.solo 1 (.solo 4 (.take 5 (.solo 6 (.solo 7 (.solo 9 .done))))))) 8 (.solo 0 (.solo 1 (.solo 4 (.take 5 (.solo 6 (.solo 7 (.solo 9 .done)))))))) 8 (.duo 0 (.duo 1 (.duo 2 (.solo 4 (.take 5 (.solo 6 (.solo 7 (.solo 9 .done))))) 4 (.take 5 (.solo 2 (.solo 6 (.solo 7 (.solo 9 .done)))))) 2 (.solo 1 (.solo 4 (.take 5 (.solo 6 (.solo 7 (.solo 9 .done))))))) 2 (.solo 0 (.solo 1 (.solo 4 (.take 5 (.solo 6 (.solo 7 (.solo 9 .done)))))))))) (by decide +kernel) ?_; conv => whnf)
    | (refine And.intro ?_ ?_ <;> conv => whnf)
    | (refine CallOK.useD (c_PickM_L (xs := [3, 6, 12, 100, 1000, 1000000]) hz hb hn (by assumption) (by decide) (by decide)) [0, 1, 3] rfl rfl rfl ⟨⟨⟨_, rfl, .lit (away_conc (bl_plain _) _).symm (fun _ h_ => by cases h_) (away_ok (bl_plain _) _)⟩⟩, ⟨⟨_, rfl, .lit rfl (fun _ h_ => h_) (fun v hv => okB0_spec (allL_spec rfl v hv))⟩⟩, ⟨⟨_, rfl, .plain rfl (fun _ h_ => by cases h_) (il_plain _)⟩⟩, trivial⟩ (fun v_ mem_ hR => ?_); obtain ⟨y_, o_, h_, hy_, ha_, rfl, rfl⟩ := hR; refine ⟨rfl, ii y_, fun _ => rfl, ?_⟩; (conv => whnf); refine mapK_eval (cs' := [.slice (some ⟨0, off, none⟩) n c, ii o_, wv h_]) rfl ?_; conv => whnf)
    | (have hm_ := mostB (by first | exact .inl hy_ | exact .inr (.inl hy_) | exact .inr (.inr hy_)); (refine CallOK.useD (c_DrawOf5_L hz hb hn (by assumption) hm_.1 hm_.2) [0, 1] rfl rfl rfl ⟨⟨⟨_, rfl, .lit (away_conc (bl_plain _) _).symm (fun _ h_ => by cases h_) (away_ok (bl_plain _) _)⟩⟩, ⟨⟨_, rfl, .lit rfl (fun _ h_ => h_) (fun v hv => okB0_spec (allL_spec rfl v hv))⟩⟩, trivial⟩ (fun v_ mem_ hR => ?_); obtain ⟨a0_, a1_, o_, h_, ha_, rfl, rfl⟩ := hR; refine ⟨rfl, pt a0_ a1_, fun _ => rfl, ?_⟩; (conv => whnf); refine mapK_eval (cs' := [.slice (some ⟨0, off, none⟩) n c, ii o_, wv h_]) rfl ?_; conv => whnf))
    | (refine CallOK.useD (c_Next_L (m := 30) hz hb hn (by assumption)) [0, 1] rfl rfl rfl ⟨⟨⟨_, rfl, .lit (away_conc (bl_plain _) _).symm (fun _ h_ => by cases h_) (away_ok (bl_plain _) _)⟩⟩, ⟨⟨_, rfl, .lit rfl (fun _ h_ => h_) (fun v hv => okB0_spec (allL_spec rfl v hv))⟩⟩, trivial⟩ (fun v_ mem_ hR => ?_); obtain ⟨x30_, o_, h_, hx30_, ha_, rfl, rfl⟩ := hR; refine ⟨rfl, ii x30_, fun _ => rfl, ?_⟩; (conv => whnf); refine mapK_eval (cs' := [.slice (some ⟨0, off, none⟩) n c, ii o_, wv h_]) rfl ?_; conv => whnf)
    | (refine CallOK.useD (c_Bad5_L hz hb hn (by assumption)) [0, 1] rfl rfl rfl ⟨⟨⟨_, rfl, .lit (away_conc (bl_plain _) _).symm (fun _ h_ => by cases h_) (away_ok (bl_plain _) _)⟩⟩, ⟨⟨_, rfl, .lit rfl (fun _ h_ => h_) (fun v hv => okB0_spec (allL_spec rfl v hv))⟩⟩, trivial⟩ (fun v_ mem_ hR => ?_); obtain ⟨b0_, b1_, o_, h_, ha_, rfl, rfl⟩ := hR; refine ⟨rfl, pt b0_ b1_, fun _ => rfl, ?_⟩; (conv => whnf); refine mapK_eval (cs' := [.slice (some ⟨0, off, none⟩) n c, ii o_, wv h_]) rfl ?_; conv => whnf)
    | (refine CallOK.useD (c_Pick_L (xs := [2, -1, 0]) hz hb hn (by assumption) (by decide) (by decide)) [0, 1, 4] rfl rfl rfl ⟨⟨⟨_, rfl, .lit (away_conc (bl_plain _) _).symm (fun _ h_ => by cases h_) (away_ok (bl_plain _) _)⟩⟩, ⟨⟨_, rfl, .lit rfl (fun _ h_ => h_) (fun v hv => okB0_spec (allL_spec rfl v hv))⟩⟩, ⟨⟨_, rfl, .plain rfl (fun _ h_ => by cases h_) (il_plain _)⟩⟩, trivial⟩ (fun v_ mem_ hR => ?_); obtain ⟨y_, o_, h_, ha_, rfl, rfl⟩ := hR; refine ⟨rfl, ii y_, fun _ => rfl, ?_⟩; (conv => whnf); refine mapK_eval (cs' := [.slice (some ⟨0, off, none⟩) n c, ii o_, wv h_]) rfl ?_; conv => whnf)
    | (refine CallOK.useD (c_Pick_L (xs := [2, -1, 0]) hz hb hn (by assumption) (by decide) (by decide)) [0, 1, 5] rfl rfl rfl ⟨⟨⟨_, rfl, .lit (away_conc (bl_plain _) _).symm (fun _ h_ => by cases h_) (away_ok (bl_plain _) _)⟩⟩, ⟨⟨_, rfl, .lit rfl (fun _ h_ => h_) (fun v hv => okB0_spec (allL_spec rfl v hv))⟩⟩, ⟨⟨_, rfl, .plain rfl (fun _ h_ => by cases h_) (il_plain _)⟩⟩, trivial⟩ (fun v_ mem_ hR => ?_); obtain ⟨y_, o_, h_, ha_, rfl, rfl⟩ := hR; refine ⟨rfl, ii y_, fun _ => rfl, ?_⟩; (conv => whnf); refine mapK_eval (cs' := [.slice (some ⟨0, off, none⟩) n c, ii o_, wv h_]) rfl ?_; conv => whnf)
    | (show OutK _ _ _ _; (exact out_forget [] ⟨_, _, _, _, ha_, rfl, rfl⟩ rfl (okB2_spec rfl) ⟨⟨⟨_, rfl, .lit (away_conc (bl_plain _) _).symm rfl (away_ok (bl_plain _) _)⟩⟩, ⟨⟨_, rfl, .lit rfl rfl (fun v hv => okB0_spec (allL_spec rfl v hv))⟩⟩, trivial⟩ rfl rfl))
    | (refine StoreK.mk rfl ?_; conv => whnf)
    | exact join_same
    | exact (by assumption : (_ : Bool) = (_ : Bool))
    | (refine br_true (by assumption) ?_; conv => whnf)
    | (refine br_false (by assumption) ?_; conv => whnf)
    | (refine br_not ?_; conv => whnf)
    | (refine br_code ?_; conv => whnf)
    | (with_reducible refine br_and ?_; conv => whnf)
    | (with_reducible refine br_or ?_; conv => whnf)
    | (refine br_eq2 ?_; conv => whnf)
    | (refine c_spec_l01Plus.call ?_; conv => whnf)
    | (refine c_spec_l01Plus.quiet ?_; conv => whnf)
    | (refine draw_auto (by decide +kernel) ?_; conv => whnf)
    | (refine draw_asg (by decide +kernel) ?_; conv => whnf)
    | (refine draw_st (by decide +kernel) ?_; conv => whnf)
    | (refine draw_call (by decide +kernel) ?_; conv => whnf)
    | (refine enter_same (loop_n 12 ?_); conv => whnf)
    | (refine next_same ?_; conv => whnf)
    | (refine mapK_row (by assumption) ?_; conv => whnf)
    | (refine mapK_plain (Plain.of rfl) ?_; conv => whnf)
    | (refine mapK_lit ?_; conv => whnf)
    | (refine br_split (fun _ => ?_) (fun _ => ?_) <;> conv => whnf)
    | exact (rfl : (_ : Value) = _)
    | (simp only [*]; exact (rfl : (_ : Value) = _))
    | (simp [*]; done))

set_option maxHeartbeats 2000000 in
theorem c_Two5_L {zs : List Int} {off n c : Nat} {o h : Int} (hz : n ≤ zs.length) (hb : ∀ z ∈ zs, IsByte z) (hn : n ≤ 4096) (ha : SrcAt n o) : CallOK Try.prog n_spec_l05Two [.pointer (some ⟨1, 0, none⟩)] [(away off (bl zs), none), ([.slice (some ⟨0, off, none⟩) n c, ii o, wv h], some t_spec_l01Source)] (fun v m_ => ∃ x y x2 y2 o2 h2, SrcAt n o2 ∧ v = t2 (pt x y) (pt x2 y2) ∧ m_ = [(away off (bl zs), none), ([.slice (some ⟨0, off, none⟩) n c, ii o2, wv h2], some t_spec_l01Source)]) := by
  refine callOK_ofF good fn_spec_l05Two ?_
  conv => whnf
  all_goals (repeat' first
    | (refine draw_pt (.take 1 (.duo 0 (.solo 2 (.solo 3 (.solo 4 .done))) 2 (.solo 0 (.solo 3 (.solo 4 .done))))) (by decide +kernel) ?_; conv => whnf)
    | (refine draw_pt (.join [1, 0, 2] (.duo 0 (.duo 1 (.solo 2 .done) 2 (.solo 1 .done)) 1 (.solo 0 (.solo 2 .done))) (.solo 3 .done)) (by decide +kernel) ?_; conv => whnf)
    | (refine draw_pt (.take 0 (.duo 1 (.duo 2 (.solo 3 (.solo 4 .done)) 3 (.solo 2 (.solo 4 .done))) 2 (.solo 1 (.solo 3 (.solo 4 .done))))) (by decide +kernel) ?_; conv => whnf)
    | (refine draw_pt (.take 0 (.take 2 (.duo 1 (.solo 3 (.solo 4 (.solo 5 (.solo 6 .done)))) 3 (.duo 1 (.solo 4 (.solo 5 (.solo 6 .done))) 4 (.solo 1 (.solo 5 (.solo 6 .done))))))) (by decide +kernel) ?_; conv => whnf)
    | (refine draw_pt (.take 1 (.take 2 (.duo 0 (.solo 3 (.solo 4 (.solo 5 (.solo 6 (.solo 7 .done))))) 3 (.duo 0 (.solo 4 (.solo 5 (.solo 6 (.solo 7 .done)))) 4 (.duo 0 (.solo 5 (.solo 6 (.solo 7 .done))) 5 (.solo 0 (.solo 6 (.solo 7 .done)))))))) (by decide +kernel) ?_; conv => whnf)
    | (refine draw_pt (.take 3 (.trio 0 (.trio 1 (.trio 2 (.duo 4 (.take 5 (.duo 6 (.duo 7 (.solo 8 (.solo 9 .done)) 8 (.solo 7 (.solo 9 .done))) 8 (.solo 6 (.solo 7 (.solo 9 .done))))) 8 (.solo 4 (.take 5 (.solo 6 (.solo 7 (.solo 9 .done)))))) 4 (.take 5 (.duo 2 (.duo 6 (.duo 7 (.solo 8 (.solo 9 .done)) 8 (.solo 7 (.solo 9 .done))) 8 (.solo 6 (.solo 7 (.solo 9 .done)))) 8 (.solo 2 (.solo 6 (.solo 7 (.solo 9 .done)))))) 8 (.duo 2 (.solo 4 (.take 5 (.solo 6 (.solo 7 (.solo 9 .done))))) 4 (.take 5 (.solo 2 (.solo 6 (.solo 7 (.solo 9 .done))))))) 2 (.duo 1 (.duo 4 (.take 5 (.duo 6 (.duo 7 (.solo 8 (.solo 9 .done)) 8 (.solo 7 (.solo 9 .done))) 8 (.solo 6 (.solo 7 (.solo 9 .done))))) 8 (.solo 4 (.take 5 (.solo 6 (.solo 7 (.solo 9 .done)))))) 8 (.solo 1 (.solo 4 (.take 5 (.solo 6 (.solo 7 (.solo 9 .done))))))) 8 (.duo 1 (.duo 2 (.solo 4 (.take 5 (.solo 6 (.solo 7 (.solo 9 .done))))) 4 (.take 5 (.solo 2 (.solo 6 (.solo 7 (.solo 9 .done)))))) 2 (.solo 1 (.solo 4 (.take 5 (.solo 6 (.solo 7 (.solo 9 .done)))))))) 2 (.duo 0 (.duo 1 (.duo 4 (.take 5 (.duo 6 (.duo 7 (.solo 8 (.solo 9 .done)) 8 (.solo 7 (.solo 9 .done))) 8 (.solo 6 (.solo 7 (.solo 9 .done))))) 8 (.solo 4 (.take 5 (.solo 6 (.solo 7 (.solo 9 .done)))))) 8 (.solo 1 (.solo 4 (.take 5 (.solo 6 (.solo 7 (.solo 9 .done))))))) 8 (.solo 0 (.solo 1 (.solo 4 (.take 5 (.solo 6 (.solo 7 (.solo 9 .done)))))))) 8 (.duo 0 (.duo 1 (.duo 2 (.solo 4 (.take 5 (.solo 6 (.solo 7 (.solo 9 .done))))) 4 (.take 5 (.solo 2 (.solo 6 (.solo 7 (.solo 9 .done)))))) 2 (.solo 1 (.solo 4 (.take 5 (.solo 6 (.solo 7 (.solo 9 .done))))))) 2 (.solo 0 (.solo 1 (.solo 4 (.take 5 (.solo 6 (.solo 7 (.solo 9 .done)))))))))) (by decide +kernel) ?_; conv => whnf)
    | (refine And.intro ?_ ?_ <;> conv => whnf)
    | (have g_ := a0_; (refine CallOK.useD (c_Draw5_L hz hb hn (by assumption)) [0, 1] rfl rfl rfl ⟨⟨⟨_, rfl, .lit (away_conc (bl_plain _) _).symm (fun _ h_ => by cases h_) (away_ok (bl_plain _) _)⟩⟩, ⟨⟨_, rfl, .lit rfl (fun _ h_ => h_) (fun v hv => okB0_spec (allL_spec rfl v hv))⟩⟩, trivial⟩ (fun v_ mem_ hR => ?_); obtain ⟨b0_, b1_, o_, h_, ha_, rfl, rfl⟩ := hR; refine ⟨rfl, pt b0_ b1_, fun _ => rfl, ?_⟩; (conv => whnf); refine mapK_eval (cs' := [.slice (some ⟨0, off, none⟩) n c, ii o_, wv h_]) rfl ?_; conv => whnf))
    | (refine CallOK.useD (c_Draw5_L hz hb hn (by assumption)) [0, 1] rfl rfl rfl ⟨⟨⟨_, rfl, .lit (away_conc (bl_plain _) _).symm (fun _ h_ => by cases h_) (away_ok (bl_plain _) _)⟩⟩, ⟨⟨_, rfl, .lit rfl (fun _ h_ => h_) (fun v hv => okB0_spec (allL_spec rfl v hv))⟩⟩, trivial⟩ (fun v_ mem_ hR => ?_); obtain ⟨a0_, a1_, o_, h_, ha_, rfl, rfl⟩ := hR; refine ⟨rfl, pt a0_ a1_, fun _ => rfl, ?_⟩; (conv => whnf); refine mapK_eval (cs' := [.slice (some ⟨0, off, none⟩) n c, ii o_, wv h_]) rfl ?_; conv => whnf)
    | (refine CallOK.useD (c_Next_L (m := 3) hz hb hn (by assumption)) [0, 1] rfl rfl rfl ⟨⟨⟨_, rfl, .lit (away_conc (bl_plain _) _).symm (fun _ h_ => by cases h_) (away_ok (bl_plain _) _)⟩⟩, ⟨⟨_, rfl, .lit rfl (fun _ h_ => h_) (fun v hv => okB0_spec (allL_spec rfl v hv))⟩⟩, trivial⟩ (fun v_ mem_ hR => ?_); obtain ⟨x3_, o_, h_, hx3_, ha_, rfl, rfl⟩ := hR; refine ⟨rfl, ii x3_, fun _ => rfl, ?_⟩; (conv => whnf); refine mapK_eval (cs' := [.slice (some ⟨0, off, none⟩) n c, ii o_, wv h_]) rfl ?_; conv => whnf)
    | (refine CallOK.useD (c_Next_L (m := 7) hz hb hn (by assumption)) [0, 1] rfl rfl rfl ⟨⟨⟨_, rfl, .lit (away_conc (bl_plain _) _).symm (fun _ h_ => by cases h_) (away_ok (bl_plain _) _)⟩⟩, ⟨⟨_, rfl, .lit rfl (fun _ h_ => h_) (fun v hv => okB0_spec (allL_spec rfl v hv))⟩⟩, trivial⟩ (fun v_ mem_ hR => ?_); obtain ⟨x7_, o_, h_, hx7_, ha_, rfl, rfl⟩ := hR; refine ⟨rfl, ii x7_, fun _ => rfl, ?_⟩; (conv => whnf); refine mapK_eval (cs' := [.slice (some ⟨0, off, none⟩) n c, ii o_, wv h_]) rfl ?_; conv => whnf)
    | (refine CallOK.useD (c_Next_L (m := 2) hz hb hn (by assumption)) [0, 1] rfl rfl rfl ⟨⟨⟨_, rfl, .lit (away_conc (bl_plain _) _).symm (fun _ h_ => by cases h_) (away_ok (bl_plain _) _)⟩⟩, ⟨⟨_, rfl, .lit rfl (fun _ h_ => h_) (fun v hv => okB0_spec (allL_spec rfl v hv))⟩⟩, trivial⟩ (fun v_ mem_ hR => ?_); obtain ⟨x2_, o_, h_, hx2_, ha_, rfl, rfl⟩ := hR; refine ⟨rfl, ii x2_, fun _ => rfl, ?_⟩; (conv => whnf); refine mapK_eval (cs' := [.slice (some ⟨0, off, none⟩) n c, ii o_, wv h_]) rfl ?_; conv => whnf)
    | exact (frac_iff (by assumption)).1
    | (show OutK _ _ _ _; (exact out_forget [] ⟨_, _, _, _, _, _, ha_, rfl, rfl⟩ rfl (okB2_spec rfl) ⟨⟨⟨_, rfl, .lit (away_conc (bl_plain _) _).symm rfl (away_ok (bl_plain _) _)⟩⟩, ⟨⟨_, rfl, .lit rfl rfl (fun v hv => okB0_spec (allL_spec rfl v hv))⟩⟩, trivial⟩ rfl rfl))
    | (refine StoreK.mk rfl ?_; conv => whnf)
    | exact join_same
    | exact (by assumption : (_ : Bool) = (_ : Bool))
    | (refine br_true (by assumption) ?_; conv => whnf)
    | (refine br_false (by assumption) ?_; conv => whnf)
    | (refine br_not ?_; conv => whnf)
    | (refine br_code ?_; conv => whnf)
    | (with_reducible refine br_and ?_; conv => whnf)
    | (with_reducible refine br_or ?_; conv => whnf)
    | (refine br_eq2 ?_; conv => whnf)
    | (refine c_spec_l05Is.call ?_; conv => whnf)
    | (refine c_spec_l05Is.quiet ?_; conv => whnf)
    | (refine (c_spec_l01Base ?_).call ?_ <;> conv => whnf)
    | (refine (c_spec_l01Base ?_).quiet ?_ <;> conv => whnf)
    | (refine c_spec_l01Plus.call ?_; conv => whnf)
    | (refine c_spec_l01Plus.quiet ?_; conv => whnf)
    | (refine c_spec_l05Turn.call ?_; conv => whnf)
    | (refine c_spec_l05Turn.quiet ?_; conv => whnf)
    | (refine draw_auto (by decide +kernel) ?_; conv => whnf)
    | (refine draw_asg (by decide +kernel) ?_; conv => whnf)
    | (refine draw_st (by decide +kernel) ?_; conv => whnf)
    | (refine draw_call (by decide +kernel) ?_; conv => whnf)
    | (refine enter_same (loop_n 12 ?_); conv => whnf)
    | (refine next_same ?_; conv => whnf)
    | (refine mapK_row (by assumption) ?_; conv => whnf)
    | (refine mapK_plain (Plain.of rfl) ?_; conv => whnf)
    | (refine mapK_lit ?_; conv => whnf)
    | (refine br_split (fun _ => ?_) (fun _ => ?_) <;> conv => whnf)
    | exact (rfl : (_ : Value) = _)
    | (simp only [*]; exact (rfl : (_ : Value) = _))
    | (simp [*]; done))

set_option maxHeartbeats 1000000 in
theorem c_DrawPtB_N  {o h m : Int}  (ha : SrcAt 0 o) : CallOK Try.prog n_spec_l01DrawPoint [.pointer (some ⟨0, 0, none⟩), ii m] [([.slice none 0 0, ii o, wv h], some t_spec_l01Source)] (fun v m_ => ∃ x y o2 h2, (1 ≤ m → m ≤ 1000000 → sm x 1000000 ∧ sm y 1000000) ∧ SrcAt 0 o2 ∧ v = pt x y ∧ m_ = [([.slice none 0 0, ii o2, wv h2], some t_spec_l01Source)]) := by
  refine callOK_ofF good fn_spec_l01DrawPoint ?_
  conv => whnf
  all_goals (repeat' first
    | (refine CallOK.useD (c_Next_N (by assumption)) [0] rfl rfl rfl ⟨⟨⟨_, rfl, .lit rfl (fun _ h_ => h_) (fun v hv => okB0_spec (allL_spec rfl v hv))⟩⟩, trivial⟩ (fun v_ mem_ hR => ?_); obtain ⟨x1_, o_, h_, hx1_, ha_, rfl, rfl⟩ := hR; refine ⟨rfl, ii x1_, fun _ => rfl, ?_⟩; (conv => whnf); refine mapK_eval (cs' := [.slice none 0 0, ii o_, wv h_]) rfl ?_; conv => whnf)
    | (show OutK _ _ _ _; (exact out_forget [] ⟨_, _, _, _, draw_smB (by assumption) (by assumption), ha_, rfl, rfl⟩ rfl (okB2_spec rfl) ⟨⟨⟨_, rfl, .lit rfl rfl (fun v hv => okB0_spec (allL_spec rfl v hv))⟩⟩, trivial⟩ rfl rfl))
    | (refine StoreK.mk rfl ?_; conv => whnf)
    | exact join_same
    | exact (by assumption : (_ : Bool) = (_ : Bool))
    | (refine br_true (by assumption) ?_; conv => whnf)
    | (refine br_false (by assumption) ?_; conv => whnf)
    | (refine br_not ?_; conv => whnf)
    | (refine br_code ?_; conv => whnf)
    | (with_reducible refine br_and ?_; conv => whnf)
    | (with_reducible refine br_or ?_; conv => whnf)
    | (refine br_eq2 ?_; conv => whnf)
    | (refine draw_auto (by decide +kernel) ?_; conv => whnf)
    | (refine draw_asg (by decide +kernel) ?_; conv => whnf)
    | (refine draw_st (by decide +kernel) ?_; conv => whnf)
    | (refine draw_call (by decide +kernel) ?_; conv => whnf)
    | (refine enter_same (loop_n 12 ?_); conv => whnf)
    | (refine next_same ?_; conv => whnf)
    | (refine mapK_row (by assumption) ?_; conv => whnf)
    | (refine mapK_plain (Plain.of rfl) ?_; conv => whnf)
    | (refine mapK_lit ?_; conv => whnf)
    | (refine br_split (fun _ => ?_) (fun _ => ?_) <;> conv => whnf)
    | exact (rfl : (_ : Value) = _)
    | (simp only [*]; exact (rfl : (_ : Value) = _))
    | (simp [*]; done))

set_option maxHeartbeats 1000000 in
theorem c_DrawPrB_N  {o h m : Int}  (ha : SrcAt 0 o) (hm1 : 1 ≤ m) (hm2 : m ≤ 1000000) : CallOK Try.prog n_spec_l01DrawPrimitive [.pointer (some ⟨0, 0, none⟩), ii m] [([.slice none 0 0, ii o, wv h], some t_spec_l01Source)] (fun v m_ => ∃ x y o2 h2, SrcAt 0 o2 ∧ v = pt x y ∧ m_ = [([.slice none 0 0, ii o2, wv h2], some t_spec_l01Source)]) := by
  refine callOK_ofF good fn_spec_l01DrawPrimitive ?_
  conv => whnf
  all_goals (repeat' first
    | (refine part_nzB (hp_ hm1 hm2) (nz_a ?_); assumption)
    | (refine part_nzB (hp_ hm1 hm2) (nz_b ?_); assumption)
    | (refine CallOK.useD (c_DrawPtB_N (by assumption)) [0] rfl rfl rfl ⟨⟨⟨_, rfl, .lit rfl (fun _ h_ => h_) (fun v hv => okB0_spec (allL_spec rfl v hv))⟩⟩, trivial⟩ (fun v_ mem_ hR => ?_); obtain ⟨px_, py_, o_, h_, hp_, ha_, rfl, rfl⟩ := hR; refine ⟨rfl, pt px_ py_, fun _ => rfl, ?_⟩; (conv => whnf); refine mapK_eval (cs' := [.slice none 0 0, ii o_, wv h_]) rfl ?_; conv => whnf)
    | (show OutK _ _ _ _; (exact out_forget [] ⟨_, _, _, _, ha_, rfl, rfl⟩ rfl (okB2_spec rfl) ⟨⟨⟨_, rfl, .lit rfl rfl (fun v hv => okB0_spec (allL_spec rfl v hv))⟩⟩, trivial⟩ rfl rfl))
    | (refine StoreK.mk rfl ?_; conv => whnf)
    | exact join_same
    | exact (by assumption : (_ : Bool) = (_ : Bool))
    | (refine br_true (by assumption) ?_; conv => whnf)
    | (refine br_false (by assumption) ?_; conv => whnf)
    | (refine br_not ?_; conv => whnf)
    | (refine br_code ?_; conv => whnf)
    | (with_reducible refine br_and ?_; conv => whnf)
    | (with_reducible refine br_or ?_; conv => whnf)
    | (refine br_eq2 ?_; conv => whnf)
    | (refine (c_spec_l01Part ?_).call ?_ <;> conv => whnf)
    | (refine (c_spec_l01Part ?_).quiet ?_ <;> conv => whnf)
    | (refine draw_auto (by decide +kernel) ?_; conv => whnf)
    | (refine draw_asg (by decide +kernel) ?_; conv => whnf)
    | (refine draw_st (by decide +kernel) ?_; conv => whnf)
    | (refine draw_call (by decide +kernel) ?_; conv => whnf)
    | (refine enter_same (loop_n 12 ?_); conv => whnf)
    | (refine next_same ?_; conv => whnf)
    | (refine mapK_row (by assumption) ?_; conv => whnf)
    | (refine mapK_plain (Plain.of rfl) ?_; conv => whnf)
    | (refine mapK_lit ?_; conv => whnf)
    | (refine br_split (fun _ => ?_) (fun _ => ?_) <;> conv => whnf)
    | exact (rfl : (_ : Value) = _)
    | (simp only [*]; exact (rfl : (_ : Value) = _))
    | (simp [*]; done))

set_option maxHeartbeats 1000000 in
theorem c_DrawOf5_N  {o h m : Int}  (ha : SrcAt 0 o) (hm1 : 1 ≤ m) (hm2 : m ≤ 1000000) : CallOK Try.prog n_spec_l05DrawOf [.pointer (some ⟨0, 0, none⟩), ii m] [([.slice none 0 0, ii o, wv h], some t_spec_l01Source)] (fun v m_ => ∃ x y o2 h2, SrcAt 0 o2 ∧ v = pt x y ∧ m_ = [([.slice none 0 0, ii o2, wv h2], some t_spec_l01Source)]) := by
  refine callOK_ofF good fn_spec_l05DrawOf ?_
  conv => whnf
  all_goals (repeat' first
    | (refine CallOK.useD (c_DrawPrB_N (by assumption) hm1 hm2) [0] rfl rfl rfl ⟨⟨⟨_, rfl, .lit rfl (fun _ h_ => h_) (fun v hv => okB0_spec (allL_spec rfl v hv))⟩⟩, trivial⟩ (fun v_ mem_ hR => ?_); obtain ⟨px_, py_, o_, h_, ha_, rfl, rfl⟩ := hR; refine ⟨rfl, pt px_ py_, fun _ => rfl, ?_⟩; (conv => whnf); refine mapK_eval (cs' := [.slice none 0 0, ii o_, wv h_]) rfl ?_; conv => whnf)
    | (show OutK _ _ _ _; (exact out_forget [] ⟨_, _, _, _, ha_, rfl, rfl⟩ rfl (okB2_spec rfl) ⟨⟨⟨_, rfl, .lit rfl rfl (fun v hv => okB0_spec (allL_spec rfl v hv))⟩⟩, trivial⟩ rfl rfl))
    | (refine StoreK.mk rfl ?_; conv => whnf)
    | exact join_same
    | exact (by assumption : (_ : Bool) = (_ : Bool))
    | (refine br_true (by assumption) ?_; conv => whnf)
    | (refine br_false (by assumption) ?_; conv => whnf)
    | (refine br_not ?_; conv => whnf)
    | (refine br_code ?_; conv => whnf)
    | (with_reducible refine br_and ?_; conv => whnf)
    | (with_reducible refine br_or ?_; conv => whnf)
    | (refine br_eq2 ?_; conv => whnf)
    | (refine c_spec_l05Turn.call ?_; conv => whnf)
    | (refine c_spec_l05Turn.quiet ?_; conv => whnf)
    | (refine draw_auto (by decide +kernel) ?_; conv => whnf)
    | (refine draw_asg (by decide +kernel) ?_; conv => whnf)
    | (refine draw_st (by decide +kernel) ?_; conv => whnf)
    | (refine draw_call (by decide +kernel) ?_; conv => whnf)
    | (refine enter_same (loop_n 12 ?_); conv => whnf)
    | (refine next_same ?_; conv => whnf)
    | (refine mapK_row (by assumption) ?_; conv => whnf)
    | (refine mapK_plain (Plain.of rfl) ?_; conv => whnf)
    | (refine mapK_lit ?_; conv => whnf)
    | (refine br_split (fun _ => ?_) (fun _ => ?_) <;> conv => whnf)
    | exact (rfl : (_ : Value) = _)
    | (simp only [*]; exact (rfl : (_ : Value) = _))
    | (simp [*]; done))

set_option maxHeartbeats 1000000 in
theorem c_Bad5_N  {o h a b : Int}  (ha : SrcAt 0 o) : CallOK Try.prog n_spec_l01Bad [.pointer (some ⟨0, 0, none⟩), pt a b] [([.slice none 0 0, ii o, wv h], some t_spec_l01Source)] (fun v m_ => ∃ x y o2 h2, SrcAt 0 o2 ∧ v = pt x y ∧ m_ = [([.slice none 0 0, ii o2, wv h2], some t_spec_l01Source)]) := by
  refine callOK_ofF good fn_spec_l01Bad ?_
  conv => whnf
  all_goals (repeat' first
    | (refine CallOK.useD (c_Next_N (m := 40) (by assumption)) [0] rfl rfl rfl ⟨⟨⟨_, rfl, .lit rfl (fun _ h_ => h_) (fun v hv => okB0_spec (allL_spec rfl v hv))⟩⟩, trivial⟩ (fun v_ mem_ hR => ?_); obtain ⟨x40_, o_, h_, hx40_, ha_, rfl, rfl⟩ := hR; refine ⟨rfl, ii x40_, fun _ => rfl, ?_⟩; (conv => whnf); refine mapK_eval (cs' := [.slice none 0 0, ii o_, wv h_]) rfl ?_; conv => whnf)
    | (refine CallOK.useD (c_Next_N (m := 2) (by assumption)) [0] rfl rfl rfl ⟨⟨⟨_, rfl, .lit rfl (fun _ h_ => h_) (fun v hv => okB0_spec (allL_spec rfl v hv))⟩⟩, trivial⟩ (fun v_ mem_ hR => ?_); obtain ⟨x2_, o_, h_, hx2_, ha_, rfl, rfl⟩ := hR; refine ⟨rfl, ii x2_, fun _ => rfl, ?_⟩; (conv => whnf); refine mapK_eval (cs' := [.slice none 0 0, ii o_, wv h_]) rfl ?_; conv => whnf)
    | (refine CallOK.useD (c_Pick_N (xs := [1000001, -1000001, 1099511627776]) (by assumption) (by decide) (by decide)) [0, 3] rfl rfl rfl ⟨⟨⟨_, rfl, .lit rfl (fun _ h_ => h_) (fun v hv => okB0_spec (allL_spec rfl v hv))⟩⟩, ⟨⟨_, rfl, .plain rfl (fun _ h_ => by cases h_) (il_plain _)⟩⟩, trivial⟩ (fun v_ mem_ hR => ?_); obtain ⟨y_, o_, h_, ha_, rfl, rfl⟩ := hR; refine ⟨rfl, ii y_, fun _ => rfl, ?_⟩; (conv => whnf); refine mapK_eval (cs' := [.slice none 0 0, ii o_, wv h_]) rfl ?_; conv => whnf)
    | (show brK (decide (0 ≤ x2_ ∧ x2_ < _)) _ _; rcases two_of hx2_ with rfl | rfl <;> conv => whnf)
    | (show OutK _ _ _ _; (exact out_forget [] ⟨_, _, _, _, ha_, rfl, rfl⟩ rfl (okB2_spec rfl) ⟨⟨⟨_, rfl, .lit rfl rfl (fun v hv => okB0_spec (allL_spec rfl v hv))⟩⟩, trivial⟩ rfl rfl))
    | (refine StoreK.mk rfl ?_; conv => whnf)
    | exact join_same
    | exact (by assumption : (_ : Bool) = (_ : Bool))
    | (refine br_true (by assumption) ?_; conv => whnf)
    | (refine br_false (by assumption) ?_; conv => whnf)
    | (refine br_not ?_; conv => whnf)
    | (refine br_code ?_; conv => whnf)
    | (with_reducible refine br_and ?_; conv => whnf)
    | (with_reducible refine br_or ?_; conv => whnf)
    | (refine br_eq2 ?_; conv => whnf)
    | (refine draw_auto (by decide +kernel) ?_; conv => whnf)
    | (refine draw_asg (by decide +kernel) ?_; conv => whnf)
    | (refine draw_st (by decide +kernel) ?_; conv => whnf)
    | (refine draw_call (by decide +kernel) ?_; conv => whnf)
    | (refine enter_same (loop_n 12 ?_); conv => whnf)
    | (refine next_same ?_; conv => whnf)
    | (refine mapK_row (by assumption) ?_; conv => whnf)
    | (refine mapK_plain (Plain.of rfl) ?_; conv => whnf)
    | (refine mapK_lit ?_; conv => whnf)
    | (refine br_split (fun _ => ?_) (fun _ => ?_) <;> conv => whnf)
    | exact (rfl : (_ : Value) = _)
    | (simp only [*]; exact (rfl : (_ : Value) = _))
    | (simp [*]; done))

set_option maxHeartbeats 2000000 in
theorem c_Draw5_N  {o h : Int}  (ha : SrcAt 0 o) : CallOK Try.prog n_spec_l05Draw [.pointer (some ⟨0, 0, none⟩)] [([.slice none 0 0, ii o, wv h], some t_spec_l01Source)] (fun v m_ => ∃ x y o2 h2, SrcAt 0 o2 ∧ v = pt x y ∧ m_ = [([.slice none 0 0, ii o2, wv h2], some t_spec_l01Source)]) := by
  refine callOK_ofF good fn_spec_l05Draw ?_
  conv => whnf
  all_goals (repeat' first
    | (refine draw_pt (.take 1 (.duo 0 (.solo 2 (.solo 3 (.solo 4 .done))) 2 (.solo 0 (.solo 3 (.solo 4 .done))))) (by decide +kernel) ?_; conv => whnf)
    | (refine draw_pt (.join [1, 0, 2] (.duo 0 (.duo 1 (.solo 2 .done) 2 (.solo 1 .done)) 1 (.solo 0 (.solo 2 .done))) (.solo 3 .done)) (by decide +kernel) ?_; conv => whnf)
    | (refine draw_pt (.take 0 (.duo 1 (.duo 2 (.solo 3 (.solo 4 .done)) 3 (.solo 2 (.solo 4 .done))) 2 (.solo 1 (.solo 3 (.solo 4 .done))))) (by decide +kernel) ?_; conv => whnf)
    | (refine draw_pt (.take 0 (.take 2 (.duo 1 (.solo 3 (.solo 4 (.solo 5 (.solo 6 .done)))) 3 (.duo 1 (.solo 4 (.solo 5 (.solo 6 .done))) 4 (.solo 1 (.solo 5 (.solo 6 .done))))))) (by decide +kernel) ?_; conv => whnf)
    | (refine draw_pt (.take 1 (.take 2 (.duo 0 (.solo 3 (.solo 4 (.solo 5 (.solo 6 (.solo 7 .done))))) 3 (.duo 0 (.solo 4 (.solo 5 (.solo 6 (.solo 7 .done)))) 4 (.duo 0 (.solo 5 (.solo 6 (.solo 7 .done))) 5 (.solo 0 (.solo 6 (.solo 7 .done)))))))) (by decide +kernel) ?_; conv => whnf)
    | (refine draw_pt (.take 3 (.trio 0 (.trio 1 (.trio 2 (.duo 4 (.take 5 (.duo 6 (.duo 7 (.solo 8 (.solo 9 .done)) 8 (.solo 7 (.solo 9 .done))) 8 (.solo 6 (.solo 7 (.solo 9 .done))))) 8 (.solo 4 (.take 5 (.solo 6 (.solo 7 (.solo 9 .done)))))) 4 (.take 5 (.duo 2 (.duo 6 (.duo 7 (.solo 8 (.solo 9 .done)) 8 (.solo 7 (.solo 9 .done))) 8 (.solo 6 (.solo 7 (.solo 9 .done)))) 8 (.solo 2 (.solo 6 (.solo 7 (.solo 9 .done)))))) 8 (.duo 2 (.solo 4 (.take 5 (.solo 6 (.solo 7 (.solo 9 .done))))) 4 (.take 5 (.solo 2 (.solo 6 (.solo 7 (.solo 9 .done))))))) 2 (.duo 1 (.duo 4 (.take 5 (.duo 6 (.duo 7 (.solo 8 (.solo 9 .done)) 8 (.solo 7 (.solo 9 .done))) 8 (.solo 6 (.solo 7 (.solo 9 .done))))) 8 (.solo 4 (.take 5 (.solo 6 (.solo 7 (.solo 9 .done)))))) 8 (.solo 1 (.solo 4 (.take 5 (.solo 6 (.solo 7 (.solo 9 .done))))))) 8 (.duo 1 (.duo 2 (.solo 4 (.take 5 (.solo 6 (.solo 7 (.solo 9 .done))))) 4 (.take 5 (.solo 2 (.solo 6 (.solo 7 (.solo 9 .done)))))) 2 (.solo 1 (.solo 4 (.take 5 (.solo 6 (.solo 7 (.solo 9 .done)))))))) 2 (.duo 0 (.duo 1 (.duo 4 (.take 5 (.duo 6 (.duo 7 (.solo 8 (.solo 9 .done)) 8 (.solo 7 (.solo 9 .done))) 8 (.solo 6 (.solo 7 (.solo 9 .done))))) 8 (.solo 4 (.take 5 (.solo 6 (.solo 7 (.solo 9 .done)))))) 8 (.solo 1 (.solo 4 (.take 5 (.solo 6 (.solo 7 (.solo 9 .done))))))) 8 (.solo 0 (.solo 1 (.solo 4 (.take 5 (.solo 6 (.solo 7 (.solo 9 .done)))))))) 8 (.duo 0 (.duo 1 (.duo 2 (.solo 4 (.take 5 (.solo 6 (.solo 7 (.solo 9 .done))))) 4 (.take 5 (.solo 2 (.solo 6 (.solo 7 (.solo 9 .done)))))) 2 (.solo 1 (.solo 4 (.take 5 (.solo 6 (.solo 7 (.solo 9 .done))))))) 2 (.solo 0 (.solo 1 (.solo 4 (.take 5 (.solo 6 (.solo 7 (.solo 9 .done)))))))))) (by decide +kernel) ?_; conv => whnf)
    | (refine And.intro ?_ ?_ <;> conv => whnf)
    | (refine CallOK.useD (c_PickM_N (xs := [3, 6, 12, 100, 1000, 1000000]) (by assumption) (by decide) (by decide)) [0, 2] rfl rfl rfl ⟨⟨⟨_, rfl, .lit rfl (fun _ h_ => h_) (fun v hv => okB0_spec (allL_spec rfl v hv))⟩⟩, ⟨⟨_, rfl, .plain rfl (fun _ h_ => by cases h_) (il_plain _)⟩⟩, trivial⟩ (fun v_ mem_ hR => ?_); obtain ⟨y_, o_, h_, hy_, ha_, rfl, rfl⟩ := hR; refine ⟨rfl, ii y_, fun _ => rfl, ?_⟩; (conv => whnf); refine mapK_eval (cs' := [.slice none 0 0, ii o_, wv h_]) rfl ?_; conv => whnf)
    | (have hm_ := mostB (by first | exact .inl hy_ | exact .inr (.inl hy_) | exact .inr (.inr hy_)); (refine CallOK.useD (c_DrawOf5_N (by assumption) hm_.1 hm_.2) [0] rfl rfl rfl ⟨⟨⟨_, rfl, .lit rfl (fun _ h_ => h_) (fun v hv => okB0_spec (allL_spec rfl v hv))⟩⟩, trivial⟩ (fun v_ mem_ hR => ?_); obtain ⟨a0_, a1_, o_, h_, ha_, rfl, rfl⟩ := hR; refine ⟨rfl, pt a0_ a1_, fun _ => rfl, ?_⟩; (conv => whnf); refine mapK_eval (cs' := [.slice none 0 0, ii o_, wv h_]) rfl ?_; conv => whnf))
    | (refine CallOK.useD (c_Next_N (m := 30) (by assumption)) [0] rfl rfl rfl ⟨⟨⟨_, rfl, .lit rfl (fun _ h_ => h_) (fun v hv => okB0_spec (allL_spec rfl v hv))⟩⟩, trivial⟩ (fun v_ mem_ hR => ?_); obtain ⟨x30_, o_, h_, hx30_, ha_, rfl, rfl⟩ := hR; refine ⟨rfl, ii x30_, fun _ => rfl, ?_⟩; (conv => whnf); refine mapK_eval (cs' := [.slice none 0 0, ii o_, wv h_]) rfl ?_; conv => whnf)
    | (refine CallOK.useD (c_Bad5_N (by assumption)) [0] rfl rfl rfl ⟨⟨⟨_, rfl, .lit rfl (fun _ h_ => h_) (fun v hv => okB0_spec (allL_spec rfl v hv))⟩⟩, trivial⟩ (fun v_ mem_ hR => ?_); obtain ⟨b0_, b1_, o_, h_, ha_, rfl, rfl⟩ := hR; refine ⟨rfl, pt b0_ b1_, fun _ => rfl, ?_⟩; (conv => whnf); refine mapK_eval (cs' := [.slice none 0 0, ii o_, wv h_]) rfl ?_; conv => whnf)
    | (refine CallOK.useD (c_Pick_N (xs := [2, -1, 0]) (by assumption) (by decide) (by decide)) [0, 3] rfl rfl rfl ⟨⟨⟨_, rfl, .lit rfl (fun _ h_ => h_) (fun v hv => okB0_spec (allL_spec rfl v hv))⟩⟩, ⟨⟨_, rfl, .plain rfl (fun _ h_ => by cases h_) (il_plain _)⟩⟩, trivial⟩ (fun v_ mem_ hR => ?_); obtain ⟨y_, o_, h_, ha_, rfl, rfl⟩ := hR; refine ⟨rfl, ii y_, fun _ => rfl, ?_⟩; (conv => whnf); refine mapK_eval (cs' := [.slice none 0 0, ii o_, wv h_]) rfl ?_; conv => whnf)
    | (refine CallOK.useD (c_Pick_N (xs := [2, -1, 0]) (by assumption) (by decide) (by decide)) [0, 4] rfl rfl rfl ⟨⟨⟨_, rfl, .lit rfl (fun _ h_ => h_) (fun v hv => okB0_spec (allL_spec rfl v hv))⟩⟩, ⟨⟨_, rfl, .plain rfl (fun _ h_ => by cases h_) (il_plain _)⟩⟩, trivial⟩ (fun v_ mem_ hR => ?_); obtain ⟨y_, o_, h_, ha_, rfl, rfl⟩ := hR; refine ⟨rfl, ii y_, fun _ => rfl, ?_⟩; (conv => whnf); refine mapK_eval (cs' := [.slice none 0 0, ii o_, wv h_]) rfl ?_; conv => whnf)
    | (show OutK _ _ _ _; (exact out_forget [] ⟨_, _, _, _, ha_, rfl, rfl⟩ rfl (okB2_spec rfl) ⟨⟨⟨_, rfl, .lit rfl rfl (fun v hv => okB0_spec (allL_spec rfl v hv))⟩⟩, trivial⟩ rfl rfl))
    | (refine StoreK.mk rfl ?_; conv => whnf)
    | exact join_same
    | exact (by assumption : (_ : Bool) = (_ : Bool))
    | (refine br_true (by assumption) ?_; conv => whnf)
    | (refine br_false (by assumption) ?_; conv => whnf)
    | (refine br_not ?_; conv => whnf)
    | (refine br_code ?_; conv => whnf)
    | (with_reducible refine br_and ?_; conv => whnf)
    | (with_reducible refine br_or ?_; conv => whnf)
    | (refine br_eq2 ?_; conv => whnf)
    | (refine c_spec_l01Plus.call ?_; conv => whnf)
    | (refine c_spec_l01Plus.quiet ?_; conv => whnf)
    | (refine draw_auto (by decide +kernel) ?_; conv => whnf)
    | (refine draw_asg (by decide +kernel) ?_; conv => whnf)
    | (refine draw_st (by decide +kernel) ?_; conv => whnf)
    | (refine draw_call (by decide +kernel) ?_; conv => whnf)
    | (refine enter_same (loop_n 12 ?_); conv => whnf)
    | (refine next_same ?_; conv => whnf)
    | (refine mapK_row (by assumption) ?_; conv => whnf)
    | (refine mapK_plain (Plain.of rfl) ?_; conv => whnf)
    | (refine mapK_lit ?_; conv => whnf)
    | (refine br_split (fun _ => ?_) (fun _ => ?_) <;> conv => whnf)
    | exact (rfl : (_ : Value) = _)
    | (simp only [*]; exact (rfl : (_ : Value) = _))
    | (simp [*]; done))

set_option maxHeartbeats 2000000 in
theorem c_Two5_N  {o h : Int}  (ha : SrcAt 0 o) : CallOK Try.prog n_spec_l05Two [.pointer (some ⟨0, 0, none⟩)] [([.slice none 0 0, ii o, wv h], some t_spec_l01Source)] (fun v m_ => ∃ x y x2 y2 o2 h2, SrcAt 0 o2 ∧ v = t2 (pt x y) (pt x2 y2) ∧ m_ = [([.slice none 0 0, ii o2, wv h2], some t_spec_l01Source)]) := by
  refine callOK_ofF good fn_spec_l05Two ?_
  conv => whnf
  all_goals (repeat' first
    | (refine draw_pt (.take 1 (.duo 0 (.solo 2 (.solo 3 (.solo 4 .done))) 2 (.solo 0 (.solo 3 (.solo 4 .done))))) (by decide +kernel) ?_; conv => whnf)
    | (refine draw_pt (.join [1, 0, 2] (.duo 0 (.duo 1 (.solo 2 .done) 2 (.solo 1 .done)) 1 (.solo 0 (.solo 2 .done))) (.solo 3 .done)) (by decide +kernel) ?_; conv => whnf)
    | (refine draw_pt (.take 0 (.duo 1 (.duo 2 (.solo 3 (.solo 4 .done)) 3 (.solo 2 (.solo 4 .done))) 2 (.solo 1 (.solo 3 (.solo 4 .done))))) (by decide +kernel) ?_; conv => whnf)
    | (refine draw_pt (.take 0 (.take 2 (.duo 1 (.solo 3 (.solo 4 (.solo 5 (.solo 6 .done)))) 3 (.duo 1 (.solo 4 (.solo 5 (.solo 6 .done))) 4 (.solo 1 (.solo 5 (.solo 6 .done))))))) (by decide +kernel) ?_; conv => whnf)
    | (refine draw_pt (.take 1 (.take 2 (.duo 0 (.solo 3 (.solo 4 (.solo 5 (.solo 6 (.solo 7 .done))))) 3 (.duo 0 (.solo 4 (.solo 5 (.solo 6 (.solo 7 .done)))) 4 (.duo 0 (.solo 5 (.solo 6 (.solo 7 .done))) 5 (.solo 0 (.solo 6 (.solo 7 .done)))))))) (by decide +kernel) ?_; conv => whnf)
    | (refine draw_pt (.take 3 (.trio 0 (.trio 1 (.trio 2 (.duo 4 (.take 5 (.duo 6 (.duo 7 (.solo 8 (.solo 9 .done)) 8 (.solo 7 (.solo 9 .done))) 8 (.solo 6 (.solo 7 (.solo 9 .done))))) 8 (.solo 4 (.take 5 (.solo 6 (.solo 7 (.solo 9 .done)))))) 4 (.take 5 (.duo 2 (.duo 6 (.duo 7 (.solo 8 (.solo 9 .done)) 8 (.solo 7 (.solo 9 .done))) 8 (.solo 6 (.solo 7 (.solo 9 .done)))) 8 (.solo 2 (.solo 6 (.solo 7 (.solo 9 .done)))))) 8 (.duo 2 (.solo 4 (.take 5 (.solo 6 (.solo 7 (.solo 9 .done))))) 4 (.take 5 (.solo 2 (.solo 6 (.solo 7 (.solo 9 .done))))))) 2 (.duo 1 (.duo 4 (.take 5 (.duo 6 (.duo 7 (.solo 8 (.solo 9 .done)) 8 (.solo 7 (.solo 9 .done))) 8 (.solo 6 (.solo 7 (.solo 9 .done))))) 8 (.solo 4 (.take 5 (.solo 6 (.solo 7 (.solo 9 .done)))))) 8 (.solo 1 (.solo 4 (.take 5 (.solo 6 (.solo 7 (.solo 9 .done))))))) 8 (.duo 1 (.duo 2 (.solo 4 (.take 5 (.solo 6 (.solo 7 (.solo 9 .done))))) 4 (.take 5 (.solo 2 (.solo 6 (.solo 7 (.solo 9 .done)))))) 2 (.solo 1 (.solo 4 (.take 5 (.solo 6 (.solo 7 (.solo 9 .done)))))))) 2 (.duo 0 (.duo 1 (.duo 4 (.take 5 (.duo 6 (.duo 7 (.solo 8 (.solo 9 .done)) 8 (.solo 7 (.solo 9 .done))) 8 (.solo 6 (.solo 7 (.solo 9 .done))))) 8 (.solo 4 (.take 5 (.solo 6 (.solo 7 (.solo 9 .done)))))) 8 (.solo 1 (.solo 4 (.take 5 (.solo 6 (.solo 7 (.solo 9 .done))))))) 8 (.solo 0 (.solo 1 (.solo 4 (.take 5 (.solo 6 (.solo 7 (.solo 9 .done)))))))) 8 (.duo 0 (.duo 1 (.duo 2 (.solo 4 (.take 5 (.solo 6 (.solo 7 (.solo 9 .done))))) 4 (.take 5 (.solo 2 (.solo 6 (.solo 7 (.solo 9 .done)))))) 2 (.solo 1 (.solo 4 (.take 5 (.solo 6 (.solo 7 (.solo 9 .done))))))) 2 (.solo 0 (.solo 1 (.solo 4 (.take 5 (.solo 6 (.solo 7 (.solo 9 .done)))))))))) (by decide +kernel) ?_; conv => whnf)
    | (refine And.intro ?_ ?_ <;> conv => whnf)
    | (have g_ := a0_; (refine CallOK.useD (c_Draw5_N (by assumption)) [0] rfl rfl rfl ⟨⟨⟨_, rfl, .lit rfl (fun _ h_ => h_) (fun v hv => okB0_spec (allL_spec rfl v hv))⟩⟩, trivial⟩ (fun v_ mem_ hR => ?_); obtain ⟨b0_, b1_, o_, h_, ha_, rfl, rfl⟩ := hR; refine ⟨rfl, pt b0_ b1_, fun _ => rfl, ?_⟩; (conv => whnf); refine mapK_eval (cs' := [.slice none 0 0, ii o_, wv h_]) rfl ?_; conv => whnf))
    | (refine CallOK.useD (c_Draw5_N (by assumption)) [0] rfl rfl rfl ⟨⟨⟨_, rfl, .lit rfl (fun _ h_ => h_) (fun v hv => okB0_spec (allL_spec rfl v hv))⟩⟩, trivial⟩ (fun v_ mem_ hR => ?_); obtain ⟨a0_, a1_, o_, h_, ha_, rfl, rfl⟩ := hR; refine ⟨rfl, pt a0_ a1_, fun _ => rfl, ?_⟩; (conv => whnf); refine mapK_eval (cs' := [.slice none 0 0, ii o_, wv h_]) rfl ?_; conv => whnf)
    | (refine CallOK.useD (c_Next_N (m := 3) (by assumption)) [0] rfl rfl rfl ⟨⟨⟨_, rfl, .lit rfl (fun _ h_ => h_) (fun v hv => okB0_spec (allL_spec rfl v hv))⟩⟩, trivial⟩ (fun v_ mem_ hR => ?_); obtain ⟨x3_, o_, h_, hx3_, ha_, rfl, rfl⟩ := hR; refine ⟨rfl, ii x3_, fun _ => rfl, ?_⟩; (conv => whnf); refine mapK_eval (cs' := [.slice none 0 0, ii o_, wv h_]) rfl ?_; conv => whnf)
    | (refine CallOK.useD (c_Next_N (m := 7) (by assumption)) [0] rfl rfl rfl ⟨⟨⟨_, rfl, .lit rfl (fun _ h_ => h_) (fun v hv => okB0_spec (allL_spec rfl v hv))⟩⟩, trivial⟩ (fun v_ mem_ hR => ?_); obtain ⟨x7_, o_, h_, hx7_, ha_, rfl, rfl⟩ := hR; refine ⟨rfl, ii x7_, fun _ => rfl, ?_⟩; (conv => whnf); refine mapK_eval (cs' := [.slice none 0 0, ii o_, wv h_]) rfl ?_; conv => whnf)
    | (refine CallOK.useD (c_Next_N (m := 2) (by assumption)) [0] rfl rfl rfl ⟨⟨⟨_, rfl, .lit rfl (fun _ h_ => h_) (fun v hv => okB0_spec (allL_spec rfl v hv))⟩⟩, trivial⟩ (fun v_ mem_ hR => ?_); obtain ⟨x2_, o_, h_, hx2_, ha_, rfl, rfl⟩ := hR; refine ⟨rfl, ii x2_, fun _ => rfl, ?_⟩; (conv => whnf); refine mapK_eval (cs' := [.slice none 0 0, ii o_, wv h_]) rfl ?_; conv => whnf)
    | exact (frac_iff (by assumption)).1
    | (show OutK _ _ _ _; (exact out_forget [] ⟨_, _, _, _, _, _, ha_, rfl, rfl⟩ rfl (okB2_spec rfl) ⟨⟨⟨_, rfl, .lit rfl rfl (fun v hv => okB0_spec (allL_spec rfl v hv))⟩⟩, trivial⟩ rfl rfl))
    | (refine StoreK.mk rfl ?_; conv => whnf)
    | exact join_same
    | exact (by assumption : (_ : Bool) = (_ : Bool))
    | (refine br_true (by assumption) ?_; conv => whnf)
    | (refine br_false (by assumption) ?_; conv => whnf)
    | (refine br_not ?_; conv => whnf)
    | (refine br_code ?_; conv => whnf)
    | (with_reducible refine br_and ?_; conv => whnf)
    | (with_reducible refine br_or ?_; conv => whnf)
    | (refine br_eq2 ?_; conv => whnf)
    | (refine c_spec_l05Is.call ?_; conv => whnf)
    | (refine c_spec_l05Is.quiet ?_; conv => whnf)
    | (refine (c_spec_l01Base ?_).call ?_ <;> conv => whnf)
    | (refine (c_spec_l01Base ?_).quiet ?_ <;> conv => whnf)
    | (refine c_spec_l01Plus.call ?_; conv => whnf)
    | (refine c_spec_l01Plus.quiet ?_; conv => whnf)
    | (refine c_spec_l05Turn.call ?_; conv => whnf)
    | (refine c_spec_l05Turn.quiet ?_; conv => whnf)
    | (refine draw_auto (by decide +kernel) ?_; conv => whnf)
    | (refine draw_asg (by decide +kernel) ?_; conv => whnf)
    | (refine draw_st (by decide +kernel) ?_; conv => whnf)
    | (refine draw_call (by decide +kernel) ?_; conv => whnf)
    | (refine enter_same (loop_n 12 ?_); conv => whnf)
    | (refine next_same ?_; conv => whnf)
    | (refine mapK_row (by assumption) ?_; conv => whnf)
    | (refine mapK_plain (Plain.of rfl) ?_; conv => whnf)
    | (refine mapK_lit ?_; conv => whnf)
    | (refine br_split (fun _ => ?_) (fun _ => ?_) <;> conv => whnf)
    | exact (rfl : (_ : Value) = _)
    | (simp only [*]; exact (rfl : (_ : Value) = _))
    | (simp [*]; done))

end Go.Proofs.Ytnjepaboecijcaa
end

section
/-
  Contracts of functions of the program (printed by a program of this work; Lean checks each).
  Conditions: as each contract states.
-/
namespace Go.Proofs.Ytnjepaboecijcaa
open Go.Ev Go.RowKit
set_option maxRecDepth 100000
set_option linter.unusedVariables false
set_option linter.unusedSimpArgs false

theorem c_DrawNb_L {zs : List Int} {off n c : Nat} (hz : n ≤ zs.length) (hb : ∀ z ∈ zs, IsByte z) (hn : n ≤ 4096) : CallOK Try.prog n_spec_DrawAreNeighbours [.slice (some ⟨0, off, none⟩) n c] [(away off (bl zs), none)] (fun v m_ => ∃ x y x2 y2, v = t2 (pt x y) (pt x2 y2) ∧ m_ = [(away off (bl zs), none)]) := by
  refine callOK_ofF good fn_spec_DrawAreNeighbours ?_
  conv => whnf
  all_goals (repeat' first
    | (refine draw_pt (.take 1 (.duo 0 (.solo 2 (.solo 3 (.solo 4 .done))) 2 (.solo 0 (.solo 3 (.solo 4 .done))))) (by decide +kernel) ?_; conv => whnf)
    | (refine draw_pt (.join [1, 0, 2] (.duo 0 (.duo 1 (.solo 2 .done) 2 (.solo 1 .done)) 1 (.solo 0 (.solo 2 .done))) (.solo 3 .done)) (by decide +kernel) ?_; conv => whnf)
    | (refine draw_pt (.take 0 (.duo 1 (.duo 2 (.solo 3 (.solo 4 .done)) 3 (.solo 2 (.solo 4 .done))) 2 (.solo 1 (.solo 3 (.solo 4 .done))))) (by decide +kernel) ?_; conv => whnf)
    | (refine draw_pt (.take 0 (.take 2 (.duo 1 (.solo 3 (.solo 4 (.solo 5 (.solo 6 .done)))) 3 (.duo 1 (.solo 4 (.solo 5 (.solo 6 .done))) 4 (.solo 1 (.solo 5 (.solo 6 .done))))))) (by decide +kernel) ?_; conv => whnf)
    | (refine draw_pt (.take 1 (.take 2 (.duo 0 (.solo 3 (.solo 4 (.solo 5 (.solo 6 (.solo 7 .done))))) 3 (.duo 0 (.solo 4 (.solo 5 (.solo 6 (.solo 7 .done)))) 4 (.duo 0 (.solo 5 (.solo 6 (.solo 7 .done))) 5 (.solo 0 (.solo 6 (.solo 7 .done)))))))) (by decide +kernel) ?_; conv => whnf)
    | (refine draw_pt (.take 3 (.trio 0 (.trio 1 (.trio 2 (.duo 4 (.take 5 (.duo 6 (.duo 7 (.solo 8 (.solo 9 .done)) 8 (.solo 7 (.solo 9 .done))) 8 (.solo 6 (.solo 7 (.solo 9 .done))))) 8 (.solo 4 (.take 5 (.solo 6 (.solo 7 (.solo 9 .done)))))) 4 (.take 5 (.duo 2 (.duo 6 (.duo 7 (.solo 8 (.solo 9 .done)) 8 (.solo 7 (.solo 9 .done))) 8 (.solo 6 (.solo 7 (.solo 9 .done)))) 8 (.solo 2 (.solo 6 (.solo 7 (.solo 9 .done)))))) 8 (.duo 2 (.solo 4 (.take 5 (.solo 6 (.solo 7 (.solo 9 .done))))) 4 (.take 5 (.solo 2 (.solo 6 (.solo 7 (.solo 9 .done))))))) 2 (.duo 1 (.duo 4 (.take 5 (.duo 6 (.duo 7 (.solo 8 (.solo 9 .done)) 8 (.solo 7 (.solo 9 .done))) 8 (.solo 6 (.solo 7 (.solo 9 .done))))) 8 (.solo 4 (.take 5 (.solo 6 (.solo 7 (.solo 9 .done)))))) 8 (.solo 1 (.solo 4 (.take 5 (.solo 6 (.solo 7 (.solo 9 .done))))))) 8 (.duo 1 (.duo 2 (.solo 4 (.take 5 (.solo 6 (.solo 7 (.solo 9 .done))))) 4 (.take 5 (.solo 2 (.solo 6 (.solo 7 (.solo 9 .done)))))) 2 (.solo 1 (.solo 4 (.take 5 (.solo 6 (.solo 7 (.solo 9 .done)))))))) 2 (.duo 0 (.duo 1 (.duo 4 (.take 5 (.duo 6 (.duo 7 (.solo 8 (.solo 9 .done)) 8 (.solo 7 (.solo 9 .done))) 8 (.solo 6 (.solo 7 (.solo 9 .done))))) 8 (.solo 4 (.take 5 (.solo 6 (.solo 7 (.solo 9 .done)))))) 8 (.solo 1 (.solo 4 (.take 5 (.solo 6 (.solo 7 (.solo 9 .done))))))) 8 (.solo 0 (.solo 1 (.solo 4 (.take 5 (.solo 6 (.solo 7 (.solo 9 .done)))))))) 8 (.duo 0 (.duo 1 (.duo 2 (.solo 4 (.take 5 (.solo 6 (.solo 7 (.solo 9 .done))))) 4 (.take 5 (.solo 2 (.solo 6 (.solo 7 (.solo 9 .done)))))) 2 (.solo 1 (.solo 4 (.take 5 (.solo 6 (.solo 7 (.solo 9 .done))))))) 2 (.solo 0 (.solo 1 (.solo 4 (.take 5 (.solo 6 (.solo 7 (.solo 9 .done)))))))))) (by decide +kernel) ?_; conv => whnf)
    | (refine And.intro ?_ ?_ <;> conv => whnf)
    | (refine CallOK.useR (c_From_L hz hb hn) [0] rfl rfl rfl ⟨⟨⟨_, rfl, .lit (away_conc (bl_plain _) _).symm (fun _ h_ => by cases h_) (away_ok (bl_plain _) _)⟩⟩, trivial⟩ (fun v_ mem_ hR => ?_); obtain ⟨h_, rfl, rfl⟩ := hR; have ha_ := SrcAt.zero n; refine ⟨rfl, ?_⟩; (conv => whnf); refine mapK_eval (cs' := [.slice (some ⟨0, off, none⟩) n c, ii 0, wv h_]) rfl ?_; conv => whnf)
    | (refine CallOK.useD (c_Two5_L hz hb hn (by assumption)) [0, 3] rfl rfl rfl ⟨⟨⟨_, rfl, .lit (away_conc (bl_plain _) _).symm (fun _ h_ => by cases h_) (away_ok (bl_plain _) _)⟩⟩, ⟨⟨_, rfl, .lit rfl (fun _ h_ => h_) (fun v hv => okB0_spec (allL_spec rfl v hv))⟩⟩, trivial⟩ (fun v_ mem_ hR => ?_); obtain ⟨a0_, a1_, b0_, b1_, o_, h_, ha_, rfl, rfl⟩ := hR; refine ⟨rfl, t2 (pt a0_ a1_) (pt b0_ b1_), fun _ => rfl, ?_⟩; (conv => whnf); refine mapK_eval (cs' := [.slice (some ⟨0, off, none⟩) n c, ii o_, wv h_]) rfl ?_; conv => whnf)
    | (show OutK _ _ _ _; exact out_forget [] ⟨_, _, _, _, rfl, rfl⟩ rfl (okB2_spec rfl) ⟨⟨⟨_, rfl, .lit (away_conc (bl_plain _) _).symm rfl (away_ok (bl_plain _) _)⟩⟩, trivial⟩ rfl rfl)
    | (refine StoreK.mk rfl ?_; conv => whnf)
    | exact join_same
    | exact (by assumption : (_ : Bool) = (_ : Bool))
    | (refine br_true (by assumption) ?_; conv => whnf)
    | (refine br_false (by assumption) ?_; conv => whnf)
    | (refine br_not ?_; conv => whnf)
    | (refine br_code ?_; conv => whnf)
    | (with_reducible refine br_and ?_; conv => whnf)
    | (with_reducible refine br_or ?_; conv => whnf)
    | (refine br_eq2 ?_; conv => whnf)
    | (refine draw_auto (by decide +kernel) ?_; conv => whnf)
    | (refine draw_asg (by decide +kernel) ?_; conv => whnf)
    | (refine draw_st (by decide +kernel) ?_; conv => whnf)
    | (refine draw_call (by decide +kernel) ?_; conv => whnf)
    | (refine enter_same (loop_n 12 ?_); conv => whnf)
    | (refine next_same ?_; conv => whnf)
    | (refine mapK_row (by assumption) ?_; conv => whnf)
    | (refine mapK_plain (Plain.of rfl) ?_; conv => whnf)
    | (refine mapK_lit ?_; conv => whnf)
    | (refine br_split (fun _ => ?_) (fun _ => ?_) <;> conv => whnf)
    | exact (rfl : (_ : Value) = _)
    | (simp only [*]; exact (rfl : (_ : Value) = _))
    | (simp [*]; done))

set_option maxHeartbeats 2000000 in
theorem c_DrawGeo_L {zs : List Int} {off n c : Nat} (hz : n ≤ zs.length) (hb : ∀ z ∈ zs, IsByte z) (hn : n ≤ 4096) : CallOK Try.prog n_spec_DrawGeodesicOf [.slice (some ⟨0, off, none⟩) n c] [(away off (bl zs), none)] (fun v m_ => ∃ x y x2 y2, v = t2 (pt x y) (pt x2 y2) ∧ m_ = [(away off (bl zs), none)]) := by
  refine callOK_ofF good fn_spec_DrawGeodesicOf ?_
  conv => whnf
  all_goals (repeat' first
    | (refine draw_pt (.take 1 (.duo 0 (.solo 2 (.solo 3 (.solo 4 .done))) 2 (.solo 0 (.solo 3 (.solo 4 .done))))) (by decide +kernel) ?_; conv => whnf)
    | (refine draw_pt (.join [1, 0, 2] (.duo 0 (.duo 1 (.solo 2 .done) 2 (.solo 1 .done)) 1 (.solo 0 (.solo 2 .done))) (.solo 3 .done)) (by decide +kernel) ?_; conv => whnf)
    | (refine draw_pt (.take 0 (.duo 1 (.duo 2 (.solo 3 (.solo 4 .done)) 3 (.solo 2 (.solo 4 .done))) 2 (.solo 1 (.solo 3 (.solo 4 .done))))) (by decide +kernel) ?_; conv => whnf)
    | (refine draw_pt (.take 0 (.take 2 (.duo 1 (.solo 3 (.solo 4 (.solo 5 (.solo 6 .done)))) 3 (.duo 1 (.solo 4 (.solo 5 (.solo 6 .done))) 4 (.solo 1 (.solo 5 (.solo 6 .done))))))) (by decide +kernel) ?_; conv => whnf)
    | (refine draw_pt (.take 1 (.take 2 (.duo 0 (.solo 3 (.solo 4 (.solo 5 (.solo 6 (.solo 7 .done))))) 3 (.duo 0 (.solo 4 (.solo 5 (.solo 6 (.solo 7 .done)))) 4 (.duo 0 (.solo 5 (.solo 6 (.solo 7 .done))) 5 (.solo 0 (.solo 6 (.solo 7 .done)))))))) (by decide +kernel) ?_; conv => whnf)
    | (refine draw_pt (.take 3 (.trio 0 (.trio 1 (.trio 2 (.duo 4 (.take 5 (.duo 6 (.duo 7 (.solo 8 (.solo 9 .done)) 8 (.solo 7 (.solo 9 .done))) 8 (.solo 6 (.solo 7 (.solo 9 .done))))) 8 (.solo 4 (.take 5 (.solo 6 (.solo 7 (.solo 9 .done)))))) 4 (.take 5 (.duo 2 (.duo 6 (.duo 7 (.solo 8 (.solo 9 .done)) 8 (.solo 7 (.solo 9 .done))) 8 (.solo 6 (.solo 7 (.solo 9 .done)))) 8 (.solo 2 (.solo 6 (.solo 7 (.solo 9 .done)))))) 8 (.duo 2 (.solo 4 (.take 5 (.solo 6 (.solo 7 (.solo 9 .done))))) 4 (.take 5 (.solo 2 (.solo 6 (.solo 7 (.solo 9 .done))))))) 2 (.duo 1 (.duo 4 (.take 5 (.duo 6 (.duo 7 (.solo 8 (.solo 9 .done)) 8 (.solo 7 (.solo 9 .done))) 8 (.solo 6 (.solo 7 (.solo 9 .done))))) 8 (.solo 4 (.take 5 (.solo 6 (.solo 7 (.solo 9 .done)))))) 8 (.solo 1 (.solo 4 (.take 5 (.solo 6 (.solo 7 (.solo 9 .done))))))) 8 (.duo 1 (.duo 2 (.solo 4 (.take 5 (.solo 6 (.solo 7 (.solo 9 .done))))) 4 (.take 5 (.solo 2 (.solo 6 (.solo 7 (.solo 9 .done)))))) 2 (.solo 1 (.solo 4 (.take 5 (.solo 6 (.solo 7 (.solo 9 .done)))))))) 2 (.duo 0 (.duo 1 (.duo 4 (.take 5 (.duo 6 (.duo 7 (.solo 8 (.solo 9 .done)) 8 (.solo 7 (.solo 9 .done))) 8 (.solo 6 (.solo 7 (.solo 9 .done))))) 8 (.solo 4 (.take 5 (.solo 6 (.solo 7 (.solo 9 .done)))))) 8 (.solo 1 (.solo 4 (.take 5 (.solo 6 (.solo 7 (.solo 9 .done))))))) 8 (.solo 0 (.solo 1 (.solo 4 (.take 5 (.solo 6 (.solo 7 (.solo 9 .done)))))))) 8 (.duo 0 (.duo 1 (.duo 2 (.solo 4 (.take 5 (.solo 6 (.solo 7 (.solo 9 .done))))) 4 (.take 5 (.solo 2 (.solo 6 (.solo 7 (.solo 9 .done)))))) 2 (.solo 1 (.solo 4 (.take 5 (.solo 6 (.solo 7 (.solo 9 .done))))))) 2 (.solo 0 (.solo 1 (.solo 4 (.take 5 (.solo 6 (.solo 7 (.solo 9 .done)))))))))) (by decide +kernel) ?_; conv => whnf)
    | (refine And.intro ?_ ?_ <;> conv => whnf)
    | (refine CallOK.useR (c_From_L hz hb hn) [0] rfl rfl rfl ⟨⟨⟨_, rfl, .lit (away_conc (bl_plain _) _).symm (fun _ h_ => by cases h_) (away_ok (bl_plain _) _)⟩⟩, trivial⟩ (fun v_ mem_ hR => ?_); obtain ⟨h_, rfl, rfl⟩ := hR; have ha_ := SrcAt.zero n; refine ⟨rfl, ?_⟩; (conv => whnf); refine mapK_eval (cs' := [.slice (some ⟨0, off, none⟩) n c, ii 0, wv h_]) rfl ?_; conv => whnf)
    | (have g_ := a0_; (have hm_ := mostB (by first | exact .inl hy_ | exact .inr (.inl hy_) | exact .inr (.inr hy_)); (refine CallOK.useD (c_DrawOf5_L hz hb hn (by assumption) hm_.1 hm_.2) [0, 3] rfl rfl rfl ⟨⟨⟨_, rfl, .lit (away_conc (bl_plain _) _).symm (fun _ h_ => by cases h_) (away_ok (bl_plain _) _)⟩⟩, ⟨⟨_, rfl, .lit rfl (fun _ h_ => h_) (fun v hv => okB0_spec (allL_spec rfl v hv))⟩⟩, trivial⟩ (fun v_ mem_ hR => ?_); obtain ⟨b0_, b1_, o_, h_, ha_, rfl, rfl⟩ := hR; refine ⟨rfl, pt b0_ b1_, fun _ => rfl, ?_⟩; (conv => whnf); refine mapK_eval (cs' := [.slice (some ⟨0, off, none⟩) n c, ii o_, wv h_]) rfl ?_; conv => whnf)))
    | (have hm_ := mostB (by first | exact .inl hy_ | exact .inr (.inl hy_) | exact .inr (.inr hy_)); (refine CallOK.useD (c_DrawOf5_L hz hb hn (by assumption) hm_.1 hm_.2) [0, 3] rfl rfl rfl ⟨⟨⟨_, rfl, .lit (away_conc (bl_plain _) _).symm (fun _ h_ => by cases h_) (away_ok (bl_plain _) _)⟩⟩, ⟨⟨_, rfl, .lit rfl (fun _ h_ => h_) (fun v hv => okB0_spec (allL_spec rfl v hv))⟩⟩, trivial⟩ (fun v_ mem_ hR => ?_); obtain ⟨a0_, a1_, o_, h_, ha_, rfl, rfl⟩ := hR; refine ⟨rfl, pt a0_ a1_, fun _ => rfl, ?_⟩; (conv => whnf); refine mapK_eval (cs' := [.slice (some ⟨0, off, none⟩) n c, ii o_, wv h_]) rfl ?_; conv => whnf))
    | (refine CallOK.useD (c_PickM_L (xs := [3, 12, 100]) hz hb hn (by assumption) (by decide) (by decide)) [0, 3, 4] rfl rfl rfl ⟨⟨⟨_, rfl, .lit (away_conc (bl_plain _) _).symm (fun _ h_ => by cases h_) (away_ok (bl_plain _) _)⟩⟩, ⟨⟨_, rfl, .lit rfl (fun _ h_ => h_) (fun v hv => okB0_spec (allL_spec rfl v hv))⟩⟩, ⟨⟨_, rfl, .plain rfl (fun _ h_ => by cases h_) (il_plain _)⟩⟩, trivial⟩ (fun v_ mem_ hR => ?_); obtain ⟨y_, o_, h_, hy_, ha_, rfl, rfl⟩ := hR; refine ⟨rfl, ii y_, fun _ => rfl, ?_⟩; (conv => whnf); refine mapK_eval (cs' := [.slice (some ⟨0, off, none⟩) n c, ii o_, wv h_]) rfl ?_; conv => whnf)
    | (refine CallOK.useD (c_PickM_L (xs := [3, 12, 100, 1000]) hz hb hn (by assumption) (by decide) (by decide)) [0, 3, 6] rfl rfl rfl ⟨⟨⟨_, rfl, .lit (away_conc (bl_plain _) _).symm (fun _ h_ => by cases h_) (away_ok (bl_plain _) _)⟩⟩, ⟨⟨_, rfl, .lit rfl (fun _ h_ => h_) (fun v hv => okB0_spec (allL_spec rfl v hv))⟩⟩, ⟨⟨_, rfl, .plain rfl (fun _ h_ => by cases h_) (il_plain _)⟩⟩, trivial⟩ (fun v_ mem_ hR => ?_); obtain ⟨y_, o_, h_, hy_, ha_, rfl, rfl⟩ := hR; refine ⟨rfl, ii y_, fun _ => rfl, ?_⟩; (conv => whnf); refine mapK_eval (cs' := [.slice (some ⟨0, off, none⟩) n c, ii o_, wv h_]) rfl ?_; conv => whnf)
    | (refine CallOK.useD (c_Next_L (m := 12) hz hb hn (by assumption)) [0, 3] rfl rfl rfl ⟨⟨⟨_, rfl, .lit (away_conc (bl_plain _) _).symm (fun _ h_ => by cases h_) (away_ok (bl_plain _) _)⟩⟩, ⟨⟨_, rfl, .lit rfl (fun _ h_ => h_) (fun v hv => okB0_spec (allL_spec rfl v hv))⟩⟩, trivial⟩ (fun v_ mem_ hR => ?_); obtain ⟨x12_, o_, h_, hx12_, ha_, rfl, rfl⟩ := hR; refine ⟨rfl, ii x12_, fun _ => rfl, ?_⟩; (conv => whnf); refine mapK_eval (cs' := [.slice (some ⟨0, off, none⟩) n c, ii o_, wv h_]) rfl ?_; conv => whnf)
    | (refine CallOK.useD (c_Draw5_L hz hb hn (by assumption)) [0, 3] rfl rfl rfl ⟨⟨⟨_, rfl, .lit (away_conc (bl_plain _) _).symm (fun _ h_ => by cases h_) (away_ok (bl_plain _) _)⟩⟩, ⟨⟨_, rfl, .lit rfl (fun _ h_ => h_) (fun v hv => okB0_spec (allL_spec rfl v hv))⟩⟩, trivial⟩ (fun v_ mem_ hR => ?_); obtain ⟨c0_, c1_, o_, h_, ha_, rfl, rfl⟩ := hR; refine ⟨rfl, pt c0_ c1_, fun _ => rfl, ?_⟩; (conv => whnf); refine mapK_eval (cs' := [.slice (some ⟨0, off, none⟩) n c, ii o_, wv h_]) rfl ?_; conv => whnf)
    | (show OutK _ _ _ _; exact out_forget [] ⟨_, _, _, _, rfl, rfl⟩ rfl (okB2_spec rfl) ⟨⟨⟨_, rfl, .lit (away_conc (bl_plain _) _).symm rfl (away_ok (bl_plain _) _)⟩⟩, trivial⟩ rfl rfl)
    | (refine StoreK.mk rfl ?_; conv => whnf)
    | exact join_same
    | exact (by assumption : (_ : Bool) = (_ : Bool))
    | (refine br_true (by assumption) ?_; conv => whnf)
    | (refine br_false (by assumption) ?_; conv => whnf)
    | (refine br_not ?_; conv => whnf)
    | (refine br_code ?_; conv => whnf)
    | (with_reducible refine br_and ?_; conv => whnf)
    | (with_reducible refine br_or ?_; conv => whnf)
    | (refine br_eq2 ?_; conv => whnf)
    | (refine draw_auto (by decide +kernel) ?_; conv => whnf)
    | (refine draw_asg (by decide +kernel) ?_; conv => whnf)
    | (refine draw_st (by decide +kernel) ?_; conv => whnf)
    | (refine draw_call (by decide +kernel) ?_; conv => whnf)
    | (refine enter_same (loop_n 12 ?_); conv => whnf)
    | (refine next_same ?_; conv => whnf)
    | (refine mapK_row (by assumption) ?_; conv => whnf)
    | (refine mapK_plain (Plain.of rfl) ?_; conv => whnf)
    | (refine mapK_lit ?_; conv => whnf)
    | (refine br_split (fun _ => ?_) (fun _ => ?_) <;> conv => whnf)
    | exact (rfl : (_ : Value) = _)
    | (simp only [*]; exact (rfl : (_ : Value) = _))
    | (simp [*]; done))

set_option maxHeartbeats 2000000 in
theorem c_DrawFd_L {zs : List Int} {off n c : Nat} (hz : n ≤ zs.length) (hb : ∀ z ∈ zs, IsByte z) (hn : n ≤ 4096) : CallOK Try.prog n_spec_DrawFareyDistance [.slice (some ⟨0, off, none⟩) n c] [(away off (bl zs), none)] (fun v m_ => ∃ x y x2 y2, v = t2 (pt x y) (pt x2 y2) ∧ m_ = [(away off (bl zs), none)]) := by
  refine callOK_ofF good fn_spec_DrawFareyDistance ?_
  conv => whnf
  all_goals (repeat' first
    | (refine draw_pt (.take 1 (.duo 0 (.solo 2 (.solo 3 (.solo 4 .done))) 2 (.solo 0 (.solo 3 (.solo 4 .done))))) (by decide +kernel) ?_; conv => whnf)
    | (refine draw_pt (.join [1, 0, 2] (.duo 0 (.duo 1 (.solo 2 .done) 2 (.solo 1 .done)) 1 (.solo 0 (.solo 2 .done))) (.solo 3 .done)) (by decide +kernel) ?_; conv => whnf)
    | (refine draw_pt (.take 0 (.duo 1 (.duo 2 (.solo 3 (.solo 4 .done)) 3 (.solo 2 (.solo 4 .done))) 2 (.solo 1 (.solo 3 (.solo 4 .done))))) (by decide +kernel) ?_; conv => whnf)
    | (refine draw_pt (.take 0 (.take 2 (.duo 1 (.solo 3 (.solo 4 (.solo 5 (.solo 6 .done)))) 3 (.duo 1 (.solo 4 (.solo 5 (.solo 6 .done))) 4 (.solo 1 (.solo 5 (.solo 6 .done))))))) (by decide +kernel) ?_; conv => whnf)
    | (refine draw_pt (.take 1 (.take 2 (.duo 0 (.solo 3 (.solo 4 (.solo 5 (.solo 6 (.solo 7 .done))))) 3 (.duo 0 (.solo 4 (.solo 5 (.solo 6 (.solo 7 .done)))) 4 (.duo 0 (.solo 5 (.solo 6 (.solo 7 .done))) 5 (.solo 0 (.solo 6 (.solo 7 .done)))))))) (by decide +kernel) ?_; conv => whnf)
    | (refine draw_pt (.take 3 (.trio 0 (.trio 1 (.trio 2 (.duo 4 (.take 5 (.duo 6 (.duo 7 (.solo 8 (.solo 9 .done)) 8 (.solo 7 (.solo 9 .done))) 8 (.solo 6 (.solo 7 (.solo 9 .done))))) 8 (.solo 4 (.take 5 (.solo 6 (.solo 7 (.solo 9 .done)))))) 4 (.take 5 (.duo 2 (.duo 6 (.duo 7 (.solo 8 (.solo 9 .done)) 8 (.solo 7 (.solo 9 .done))) 8 (.solo 6 (.solo 7 (.solo 9 .done)))) 8 (.solo 2 (.solo 6 (.solo 7 (.solo 9 .done)))))) 8 (.duo 2 (.solo 4 (.take 5 (.solo 6 (.solo 7 (.solo 9 .done))))) 4 (.take 5 (.solo 2 (.solo 6 (.solo 7 (.solo 9 .done))))))) 2 (.duo 1 (.duo 4 (.take 5 (.duo 6 (.duo 7 (.solo 8 (.solo 9 .done)) 8 (.solo 7 (.solo 9 .done))) 8 (.solo 6 (.solo 7 (.solo 9 .done))))) 8 (.solo 4 (.take 5 (.solo 6 (.solo 7 (.solo 9 .done)))))) 8 (.solo 1 (.solo 4 (.take 5 (.solo 6 (.solo 7 (.solo 9 .done))))))) 8 (.duo 1 (.duo 2 (.solo 4 (.take 5 (.solo 6 (.solo 7 (.solo 9 .done))))) 4 (.take 5 (.solo 2 (.solo 6 (.solo 7 (.solo 9 .done)))))) 2 (.solo 1 (.solo 4 (.take 5 (.solo 6 (.solo 7 (.solo 9 .done)))))))) 2 (.duo 0 (.duo 1 (.duo 4 (.take 5 (.duo 6 (.duo 7 (.solo 8 (.solo 9 .done)) 8 (.solo 7 (.solo 9 .done))) 8 (.solo 6 (.solo 7 (.solo 9 .done))))) 8 (.solo 4 (.take 5 (.solo 6 (.solo 7 (.solo 9 .done)))))) 8 (.solo 1 (.solo 4 (.take 5 (.solo 6 (.solo 7 (.solo 9 .done))))))) 8 (.solo 0 (.solo 1 (.solo 4 (.take 5 (.solo 6 (.solo 7 (.solo 9 .done)))))))) 8 (.duo 0 (.duo 1 (.duo 2 (.solo 4 (.take 5 (.solo 6 (.solo 7 (.solo 9 .done))))) 4 (.take 5 (.solo 2 (.solo 6 (.solo 7 (.solo 9 .done)))))) 2 (.solo 1 (.solo 4 (.take 5 (.solo 6 (.solo 7 (.solo 9 .done))))))) 2 (.solo 0 (.solo 1 (.solo 4 (.take 5 (.solo 6 (.solo 7 (.solo 9 .done)))))))))) (by decide +kernel) ?_; conv => whnf)
    | (refine And.intro ?_ ?_ <;> conv => whnf)
    | (refine CallOK.useR (c_From_L hz hb hn) [0] rfl rfl rfl ⟨⟨⟨_, rfl, .lit (away_conc (bl_plain _) _).symm (fun _ h_ => by cases h_) (away_ok (bl_plain _) _)⟩⟩, trivial⟩ (fun v_ mem_ hR => ?_); obtain ⟨h_, rfl, rfl⟩ := hR; have ha_ := SrcAt.zero n; refine ⟨rfl, ?_⟩; (conv => whnf); refine mapK_eval (cs' := [.slice (some ⟨0, off, none⟩) n c, ii 0, wv h_]) rfl ?_; conv => whnf)
    | (refine CallOK.useD (c_Draw5_L hz hb hn (by assumption)) [0, 3] rfl rfl rfl ⟨⟨⟨_, rfl, .lit (away_conc (bl_plain _) _).symm (fun _ h_ => by cases h_) (away_ok (bl_plain _) _)⟩⟩, ⟨⟨_, rfl, .lit rfl (fun _ h_ => h_) (fun v hv => okB0_spec (allL_spec rfl v hv))⟩⟩, trivial⟩ (fun v_ mem_ hR => ?_); obtain ⟨a0_, a1_, o_, h_, ha_, rfl, rfl⟩ := hR; refine ⟨rfl, pt a0_ a1_, fun _ => rfl, ?_⟩; (conv => whnf); refine mapK_eval (cs' := [.slice (some ⟨0, off, none⟩) n c, ii o_, wv h_]) rfl ?_; conv => whnf)
    | (have hm_ := mostB (by first | exact .inl hy_ | exact .inr (.inl hy_) | exact .inr (.inr hy_)); (refine CallOK.useD (c_DrawOf5_L hz hb hn (by assumption) hm_.1 hm_.2) [0, 3] rfl rfl rfl ⟨⟨⟨_, rfl, .lit (away_conc (bl_plain _) _).symm (fun _ h_ => by cases h_) (away_ok (bl_plain _) _)⟩⟩, ⟨⟨_, rfl, .lit rfl (fun _ h_ => h_) (fun v hv => okB0_spec (allL_spec rfl v hv))⟩⟩, trivial⟩ (fun v_ mem_ hR => ?_); obtain ⟨b0_, b1_, o_, h_, ha_, rfl, rfl⟩ := hR; refine ⟨rfl, pt b0_ b1_, fun _ => rfl, ?_⟩; (conv => whnf); refine mapK_eval (cs' := [.slice (some ⟨0, off, none⟩) n c, ii o_, wv h_]) rfl ?_; conv => whnf))
    | (refine CallOK.useD (c_PickM_L (xs := [3, 12, 100, 1000]) hz hb hn (by assumption) (by decide) (by decide)) [0, 3, 5] rfl rfl rfl ⟨⟨⟨_, rfl, .lit (away_conc (bl_plain _) _).symm (fun _ h_ => by cases h_) (away_ok (bl_plain _) _)⟩⟩, ⟨⟨_, rfl, .lit rfl (fun _ h_ => h_) (fun v hv => okB0_spec (allL_spec rfl v hv))⟩⟩, ⟨⟨_, rfl, .plain rfl (fun _ h_ => by cases h_) (il_plain _)⟩⟩, trivial⟩ (fun v_ mem_ hR => ?_); obtain ⟨y_, o_, h_, hy_, ha_, rfl, rfl⟩ := hR; refine ⟨rfl, ii y_, fun _ => rfl, ?_⟩; (conv => whnf); refine mapK_eval (cs' := [.slice (some ⟨0, off, none⟩) n c, ii o_, wv h_]) rfl ?_; conv => whnf)
    | (refine CallOK.useD (c_Next_L (m := 12) hz hb hn (by assumption)) [0, 3] rfl rfl rfl ⟨⟨⟨_, rfl, .lit (away_conc (bl_plain _) _).symm (fun _ h_ => by cases h_) (away_ok (bl_plain _) _)⟩⟩, ⟨⟨_, rfl, .lit rfl (fun _ h_ => h_) (fun v hv => okB0_spec (allL_spec rfl v hv))⟩⟩, trivial⟩ (fun v_ mem_ hR => ?_); obtain ⟨x12_, o_, h_, hx12_, ha_, rfl, rfl⟩ := hR; refine ⟨rfl, ii x12_, fun _ => rfl, ?_⟩; (conv => whnf); refine mapK_eval (cs' := [.slice (some ⟨0, off, none⟩) n c, ii o_, wv h_]) rfl ?_; conv => whnf)
    | (show OutK _ _ _ _; exact out_forget [] ⟨_, _, _, _, rfl, rfl⟩ rfl (okB2_spec rfl) ⟨⟨⟨_, rfl, .lit (away_conc (bl_plain _) _).symm rfl (away_ok (bl_plain _) _)⟩⟩, trivial⟩ rfl rfl)
    | (refine StoreK.mk rfl ?_; conv => whnf)
    | exact join_same
    | exact (by assumption : (_ : Bool) = (_ : Bool))
    | (refine br_true (by assumption) ?_; conv => whnf)
    | (refine br_false (by assumption) ?_; conv => whnf)
    | (refine br_not ?_; conv => whnf)
    | (refine br_code ?_; conv => whnf)
    | (with_reducible refine br_and ?_; conv => whnf)
    | (with_reducible refine br_or ?_; conv => whnf)
    | (refine br_eq2 ?_; conv => whnf)
    | (refine draw_auto (by decide +kernel) ?_; conv => whnf)
    | (refine draw_asg (by decide +kernel) ?_; conv => whnf)
    | (refine draw_st (by decide +kernel) ?_; conv => whnf)
    | (refine draw_call (by decide +kernel) ?_; conv => whnf)
    | (refine enter_same (loop_n 12 ?_); conv => whnf)
    | (refine next_same ?_; conv => whnf)
    | (refine mapK_row (by assumption) ?_; conv => whnf)
    | (refine mapK_plain (Plain.of rfl) ?_; conv => whnf)
    | (refine mapK_lit ?_; conv => whnf)
    | (refine br_split (fun _ => ?_) (fun _ => ?_) <;> conv => whnf)
    | exact (rfl : (_ : Value) = _)
    | (simp only [*]; exact (rfl : (_ : Value) = _))
    | (simp [*]; done))

set_option maxHeartbeats 2000000 in
theorem c_DrawAp_L {zs : List Int} {off n c : Nat} (hz : n ≤ zs.length) (hb : ∀ z ∈ zs, IsByte z) (hn : n ≤ 4096) : CallOK Try.prog n_spec_DrawApplyToFraction [.slice (some ⟨0, off, none⟩) n c] [(away off (bl zs), none)] (fun v m_ => ∃ a1 a2 a3 a4 x y, v = t2 (q4 a1 a2 a3 a4) (pt x y) ∧ m_ = [(away off (bl zs), none)]) := by
  refine callOK_ofF good fn_spec_DrawApplyToFraction ?_
  conv => whnf
  all_goals (repeat' first
    | (refine draw_pt (.take 1 (.duo 0 (.solo 2 (.solo 3 (.solo 4 .done))) 2 (.solo 0 (.solo 3 (.solo 4 .done))))) (by decide +kernel) ?_; conv => whnf)
    | (refine draw_pt (.join [1, 0, 2] (.duo 0 (.duo 1 (.solo 2 .done) 2 (.solo 1 .done)) 1 (.solo 0 (.solo 2 .done))) (.solo 3 .done)) (by decide +kernel) ?_; conv => whnf)
    | (refine draw_pt (.take 0 (.duo 1 (.duo 2 (.solo 3 (.solo 4 .done)) 3 (.solo 2 (.solo 4 .done))) 2 (.solo 1 (.solo 3 (.solo 4 .done))))) (by decide +kernel) ?_; conv => whnf)
    | (refine draw_pt (.take 0 (.take 2 (.duo 1 (.solo 3 (.solo 4 (.solo 5 (.solo 6 .done)))) 3 (.duo 1 (.solo 4 (.solo 5 (.solo 6 .done))) 4 (.solo 1 (.solo 5 (.solo 6 .done))))))) (by decide +kernel) ?_; conv => whnf)
    | (refine draw_pt (.take 1 (.take 2 (.duo 0 (.solo 3 (.solo 4 (.solo 5 (.solo 6 (.solo 7 .done))))) 3 (.duo 0 (.solo 4 (.solo 5 (.solo 6 (.solo 7 .done)))) 4 (.duo 0 (.solo 5 (.solo 6 (.solo 7 .done))) 5 (.solo 0 (.solo 6 (.solo 7 .done)))))))) (by decide +kernel) ?_; conv => whnf)
    | (refine draw_pt (.take 3 (.trio 0 (.trio 1 (.trio 2 (.duo 4 (.take 5 (.duo 6 (.duo 7 (.solo 8 (.solo 9 .done)) 8 (.solo 7 (.solo 9 .done))) 8 (.solo 6 (.solo 7 (.solo 9 .done))))) 8 (.solo 4 (.take 5 (.solo 6 (.solo 7 (.solo 9 .done)))))) 4 (.take 5 (.duo 2 (.duo 6 (.duo 7 (.solo 8 (.solo 9 .done)) 8 (.solo 7 (.solo 9 .done))) 8 (.solo 6 (.solo 7 (.solo 9 .done)))) 8 (.solo 2 (.solo 6 (.solo 7 (.solo 9 .done)))))) 8 (.duo 2 (.solo 4 (.take 5 (.solo 6 (.solo 7 (.solo 9 .done))))) 4 (.take 5 (.solo 2 (.solo 6 (.solo 7 (.solo 9 .done))))))) 2 (.duo 1 (.duo 4 (.take 5 (.duo 6 (.duo 7 (.solo 8 (.solo 9 .done)) 8 (.solo 7 (.solo 9 .done))) 8 (.solo 6 (.solo 7 (.solo 9 .done))))) 8 (.solo 4 (.take 5 (.solo 6 (.solo 7 (.solo 9 .done)))))) 8 (.solo 1 (.solo 4 (.take 5 (.solo 6 (.solo 7 (.solo 9 .done))))))) 8 (.duo 1 (.duo 2 (.solo 4 (.take 5 (.solo 6 (.solo 7 (.solo 9 .done))))) 4 (.take 5 (.solo 2 (.solo 6 (.solo 7 (.solo 9 .done)))))) 2 (.solo 1 (.solo 4 (.take 5 (.solo 6 (.solo 7 (.solo 9 .done)))))))) 2 (.duo 0 (.duo 1 (.duo 4 (.take 5 (.duo 6 (.duo 7 (.solo 8 (.solo 9 .done)) 8 (.solo 7 (.solo 9 .done))) 8 (.solo 6 (.solo 7 (.solo 9 .done))))) 8 (.solo 4 (.take 5 (.solo 6 (.solo 7 (.solo 9 .done)))))) 8 (.solo 1 (.solo 4 (.take 5 (.solo 6 (.solo 7 (.solo 9 .done))))))) 8 (.solo 0 (.solo 1 (.solo 4 (.take 5 (.solo 6 (.solo 7 (.solo 9 .done)))))))) 8 (.duo 0 (.duo 1 (.duo 2 (.solo 4 (.take 5 (.solo 6 (.solo 7 (.solo 9 .done))))) 4 (.take 5 (.solo 2 (.solo 6 (.solo 7 (.solo 9 .done)))))) 2 (.solo 1 (.solo 4 (.take 5 (.solo 6 (.solo 7 (.solo 9 .done))))))) 2 (.solo 0 (.solo 1 (.solo 4 (.take 5 (.solo 6 (.solo 7 (.solo 9 .done)))))))))) (by decide +kernel) ?_; conv => whnf)
    | (refine And.intro ?_ ?_ <;> conv => whnf)
    | (refine CallOK.useR (c_From_L hz hb hn) [0] rfl rfl rfl ⟨⟨⟨_, rfl, .lit (away_conc (bl_plain _) _).symm (fun _ h_ => by cases h_) (away_ok (bl_plain _) _)⟩⟩, trivial⟩ (fun v_ mem_ hR => ?_); obtain ⟨h_, rfl, rfl⟩ := hR; have ha_ := SrcAt.zero n; refine ⟨rfl, ?_⟩; (conv => whnf); refine mapK_eval (cs' := [.slice (some ⟨0, off, none⟩) n c, ii 0, wv h_]) rfl ?_; conv => whnf)
    | (refine CallOK.useD (c_AnyMatrix_L hz hb hn (by assumption)) [0, 3] rfl rfl rfl ⟨⟨⟨_, rfl, .lit (away_conc (bl_plain _) _).symm (fun _ h_ => by cases h_) (away_ok (bl_plain _) _)⟩⟩, ⟨⟨_, rfl, .lit rfl (fun _ h_ => h_) (fun v hv => okB0_spec (allL_spec rfl v hv))⟩⟩, trivial⟩ (fun v_ mem_ hR => ?_); obtain ⟨m1_, m2_, m3_, m4_, o_, h_, ha_, rfl, rfl⟩ := hR; refine ⟨rfl, q4 m1_ m2_ m3_ m4_, fun _ => rfl, ?_⟩; (conv => whnf); refine mapK_eval (cs' := [.slice (some ⟨0, off, none⟩) n c, ii o_, wv h_]) rfl ?_; conv => whnf)
    | (refine CallOK.useD (c_Draw5_L hz hb hn (by assumption)) [0, 3] rfl rfl rfl ⟨⟨⟨_, rfl, .lit (away_conc (bl_plain _) _).symm (fun _ h_ => by cases h_) (away_ok (bl_plain _) _)⟩⟩, ⟨⟨_, rfl, .lit rfl (fun _ h_ => h_) (fun v hv => okB0_spec (allL_spec rfl v hv))⟩⟩, trivial⟩ (fun v_ mem_ hR => ?_); obtain ⟨a0_, a1_, o_, h_, ha_, rfl, rfl⟩ := hR; refine ⟨rfl, pt a0_ a1_, fun _ => rfl, ?_⟩; (conv => whnf); refine mapK_eval (cs' := [.slice (some ⟨0, off, none⟩) n c, ii o_, wv h_]) rfl ?_; conv => whnf)
    | (show OutK _ _ _ _; exact out_forget [] ⟨_, _, _, _, _, _, rfl, rfl⟩ rfl (okB2_spec rfl) ⟨⟨⟨_, rfl, .lit (away_conc (bl_plain _) _).symm rfl (away_ok (bl_plain _) _)⟩⟩, trivial⟩ rfl rfl)
    | (refine StoreK.mk rfl ?_; conv => whnf)
    | exact join_same
    | exact (by assumption : (_ : Bool) = (_ : Bool))
    | (refine br_true (by assumption) ?_; conv => whnf)
    | (refine br_false (by assumption) ?_; conv => whnf)
    | (refine br_not ?_; conv => whnf)
    | (refine br_code ?_; conv => whnf)
    | (with_reducible refine br_and ?_; conv => whnf)
    | (with_reducible refine br_or ?_; conv => whnf)
    | (refine br_eq2 ?_; conv => whnf)
    | (refine draw_auto (by decide +kernel) ?_; conv => whnf)
    | (refine draw_asg (by decide +kernel) ?_; conv => whnf)
    | (refine draw_st (by decide +kernel) ?_; conv => whnf)
    | (refine draw_call (by decide +kernel) ?_; conv => whnf)
    | (refine enter_same (loop_n 12 ?_); conv => whnf)
    | (refine next_same ?_; conv => whnf)
    | (refine mapK_row (by assumption) ?_; conv => whnf)
    | (refine mapK_plain (Plain.of rfl) ?_; conv => whnf)
    | (refine mapK_lit ?_; conv => whnf)
    | (refine br_split (fun _ => ?_) (fun _ => ?_) <;> conv => whnf)
    | exact (rfl : (_ : Value) = _)
    | (simp only [*]; exact (rfl : (_ : Value) = _))
    | (simp [*]; done))

theorem c_DrawNb_N   : CallOK Try.prog n_spec_DrawAreNeighbours [.slice none 0 0] [] (fun v m_ => ∃ x y x2 y2, v = t2 (pt x y) (pt x2 y2) ∧ m_ = []) := by
  refine callOK_ofF good fn_spec_DrawAreNeighbours ?_
  conv => whnf
  all_goals (repeat' first
    | (refine draw_pt (.take 1 (.duo 0 (.solo 2 (.solo 3 (.solo 4 .done))) 2 (.solo 0 (.solo 3 (.solo 4 .done))))) (by decide +kernel) ?_; conv => whnf)
    | (refine draw_pt (.join [1, 0, 2] (.duo 0 (.duo 1 (.solo 2 .done) 2 (.solo 1 .done)) 1 (.solo 0 (.solo 2 .done))) (.solo 3 .done)) (by decide +kernel) ?_; conv => whnf)
    | (refine draw_pt (.take 0 (.duo 1 (.duo 2 (.solo 3 (.solo 4 .done)) 3 (.solo 2 (.solo 4 .done))) 2 (.solo 1 (.solo 3 (.solo 4 .done))))) (by decide +kernel) ?_; conv => whnf)
    | (refine draw_pt (.take 0 (.take 2 (.duo 1 (.solo 3 (.solo 4 (.solo 5 (.solo 6 .done)))) 3 (.duo 1 (.solo 4 (.solo 5 (.solo 6 .done))) 4 (.solo 1 (.solo 5 (.solo 6 .done))))))) (by decide +kernel) ?_; conv => whnf)
    | (refine draw_pt (.take 1 (.take 2 (.duo 0 (.solo 3 (.solo 4 (.solo 5 (.solo 6 (.solo 7 .done))))) 3 (.duo 0 (.solo 4 (.solo 5 (.solo 6 (.solo 7 .done)))) 4 (.duo 0 (.solo 5 (.solo 6 (.solo 7 .done))) 5 (.solo 0 (.solo 6 (.solo 7 .done)))))))) (by decide +kernel) ?_; conv => whnf)
    | (refine draw_pt (.take 3 (.trio 0 (.trio 1 (.trio 2 (.duo 4 (.take 5 (.duo 6 (.duo 7 (.solo 8 (.solo 9 .done)) 8 (.solo 7 (.solo 9 .done))) 8 (.solo 6 (.solo 7 (.solo 9 .done))))) 8 (.solo 4 (.take 5 (.solo 6 (.solo 7 (.solo 9 .done)))))) 4 (.take 5 (.duo 2 (.duo 6 (.duo 7 (.solo 8 (.solo 9 .done)) 8 (.solo 7 (.solo 9 .done))) 8 (.solo 6 (.solo 7 (.solo 9 .done)))) 8 (.solo 2 (.solo 6 (.solo 7 (.solo 9 .done)))))) 8 (.duo 2 (.solo 4 (.take 5 (.solo 6 (.solo 7 (.solo 9 .done))))) 4 (.take 5 (.solo 2 (.solo 6 (.solo 7 (.solo 9 .done))))))) 2 (.duo 1 (.duo 4 (.take 5 (.duo 6 (.duo 7 (.solo 8 (.solo 9 .done)) 8 (.solo 7 (.solo 9 .done))) 8 (.solo 6 (.solo 7 (.solo 9 .done))))) 8 (.solo 4 (.take 5 (.solo 6 (.solo 7 (.solo 9 .done)))))) 8 (.solo 1 (.solo 4 (.take 5 (.solo 6 (.solo 7 (.solo 9 .done))))))) 8 (.duo 1 (.duo 2 (.solo 4 (.take 5 (.solo 6 (.solo 7 (.solo 9 .done))))) 4 (.take 5 (.solo 2 (.solo 6 (.solo 7 (.solo 9 .done)))))) 2 (.solo 1 (.solo 4 (.take 5 (.solo 6 (.solo 7 (.solo 9 .done)))))))) 2 (.duo 0 (.duo 1 (.duo 4 (.take 5 (.duo 6 (.duo 7 (.solo 8 (.solo 9 .done)) 8 (.solo 7 (.solo 9 .done))) 8 (.solo 6 (.solo 7 (.solo 9 .done))))) 8 (.solo 4 (.take 5 (.solo 6 (.solo 7 (.solo 9 .done)))))) 8 (.solo 1 (.solo 4 (.take 5 (.solo 6 (.solo 7 (.solo 9 .done))))))) 8 (.solo 0 (.solo 1 (.solo 4 (.take 5 (.solo 6 (.solo 7 (.solo 9 .done)))))))) 8 (.duo 0 (.duo 1 (.duo 2 (.solo 4 (.take 5 (.solo 6 (.solo 7 (.solo 9 .done))))) 4 (.take 5 (.solo 2 (.solo 6 (.solo 7 (.solo 9 .done)))))) 2 (.solo 1 (.solo 4 (.take 5 (.solo 6 (.solo 7 (.solo 9 .done))))))) 2 (.solo 0 (.solo 1 (.solo 4 (.take 5 (.solo 6 (.solo 7 (.solo 9 .done)))))))))) (by decide +kernel) ?_; conv => whnf)
    | (refine And.intro ?_ ?_ <;> conv => whnf)
    | (refine CallOK.useR (c_From_N) [] rfl rfl rfl trivial (fun v_ mem_ hR => ?_); obtain ⟨h_, rfl, rfl⟩ := hR; have ha_ := SrcAt.zero 0; refine ⟨rfl, ?_⟩; (conv => whnf); refine mapK_eval (cs' := [.slice none 0 0, ii 0, wv h_]) rfl ?_; conv => whnf)
    | (refine CallOK.useD (c_Two5_N (by assumption)) [2] rfl rfl rfl ⟨⟨⟨_, rfl, .lit rfl (fun _ h_ => h_) (fun v hv => okB0_spec (allL_spec rfl v hv))⟩⟩, trivial⟩ (fun v_ mem_ hR => ?_); obtain ⟨a0_, a1_, b0_, b1_, o_, h_, ha_, rfl, rfl⟩ := hR; refine ⟨rfl, t2 (pt a0_ a1_) (pt b0_ b1_), fun _ => rfl, ?_⟩; (conv => whnf); refine mapK_eval (cs' := [.slice none 0 0, ii o_, wv h_]) rfl ?_; conv => whnf)
    | (show OutK _ _ _ _; exact out_forget [] ⟨_, _, _, _, rfl, rfl⟩ rfl (okB2_spec rfl) trivial rfl rfl)
    | (refine StoreK.mk rfl ?_; conv => whnf)
    | exact join_same
    | exact (by assumption : (_ : Bool) = (_ : Bool))
    | (refine br_true (by assumption) ?_; conv => whnf)
    | (refine br_false (by assumption) ?_; conv => whnf)
    | (refine br_not ?_; conv => whnf)
    | (refine br_code ?_; conv => whnf)
    | (with_reducible refine br_and ?_; conv => whnf)
    | (with_reducible refine br_or ?_; conv => whnf)
    | (refine br_eq2 ?_; conv => whnf)
    | (refine draw_auto (by decide +kernel) ?_; conv => whnf)
    | (refine draw_asg (by decide +kernel) ?_; conv => whnf)
    | (refine draw_st (by decide +kernel) ?_; conv => whnf)
    | (refine draw_call (by decide +kernel) ?_; conv => whnf)
    | (refine enter_same (loop_n 12 ?_); conv => whnf)
    | (refine next_same ?_; conv => whnf)
    | (refine mapK_row (by assumption) ?_; conv => whnf)
    | (refine mapK_plain (Plain.of rfl) ?_; conv => whnf)
    | (refine mapK_lit ?_; conv => whnf)
    | (refine br_split (fun _ => ?_) (fun _ => ?_) <;> conv => whnf)
    | exact (rfl : (_ : Value) = _)
    | (simp only [*]; exact (rfl : (_ : Value) = _))
    | (simp [*]; done))

set_option maxHeartbeats 2000000 in
theorem c_DrawGeo_N   : CallOK Try.prog n_spec_DrawGeodesicOf [.slice none 0 0] [] (fun v m_ => ∃ x y x2 y2, v = t2 (pt x y) (pt x2 y2) ∧ m_ = []) := by
  refine callOK_ofF good fn_spec_DrawGeodesicOf ?_
  conv => whnf
  all_goals (repeat' first
    | (refine draw_pt (.take 1 (.duo 0 (.solo 2 (.solo 3 (.solo 4 .done))) 2 (.solo 0 (.solo 3 (.solo 4 .done))))) (by decide +kernel) ?_; conv => whnf)
    | (refine draw_pt (.join [1, 0, 2] (.duo 0 (.duo 1 (.solo 2 .done) 2 (.solo 1 .done)) 1 (.solo 0 (.solo 2 .done))) (.solo 3 .done)) (by decide +kernel) ?_; conv => whnf)
    | (refine draw_pt (.take 0 (.duo 1 (.duo 2 (.solo 3 (.solo 4 .done)) 3 (.solo 2 (.solo 4 .done))) 2 (.solo 1 (.solo 3 (.solo 4 .done))))) (by decide +kernel) ?_; conv => whnf)
    | (refine draw_pt (.take 0 (.take 2 (.duo 1 (.solo 3 (.solo 4 (.solo 5 (.solo 6 .done)))) 3 (.duo 1 (.solo 4 (.solo 5 (.solo 6 .done))) 4 (.solo 1 (.solo 5 (.solo 6 .done))))))) (by decide +kernel) ?_; conv => whnf)
    | (refine draw_pt (.take 1 (.take 2 (.duo 0 (.solo 3 (.solo 4 (.solo 5 (.solo 6 (.solo 7 .done))))) 3 (.duo 0 (.solo 4 (.solo 5 (.solo 6 (.solo 7 .done)))) 4 (.duo 0 (.solo 5 (.solo 6 (.solo 7 .done))) 5 (.solo 0 (.solo 6 (.solo 7 .done)))))))) (by decide +kernel) ?_; conv => whnf)
    | (refine draw_pt (.take 3 (.trio 0 (.trio 1 (.trio 2 (.duo 4 (.take 5 (.duo 6 (.duo 7 (.solo 8 (.solo 9 .done)) 8 (.solo 7 (.solo 9 .done))) 8 (.solo 6 (.solo 7 (.solo 9 .done))))) 8 (.solo 4 (.take 5 (.solo 6 (.solo 7 (.solo 9 .done)))))) 4 (.take 5 (.duo 2 (.duo 6 (.duo 7 (.solo 8 (.solo 9 .done)) 8 (.solo 7 (.solo 9 .done))) 8 (.solo 6 (.solo 7 (.solo 9 .done)))) 8 (.solo 2 (.solo 6 (.solo 7 (.solo 9 .done)))))) 8 (.duo 2 (.solo 4 (.take 5 (.solo 6 (.solo 7 (.solo 9 .done))))) 4 (.take 5 (.solo 2 (.solo 6 (.solo 7 (.solo 9 .done))))))) 2 (.duo 1 (.duo 4 (.take 5 (.duo 6 (.duo 7 (.solo 8 (.solo 9 .done)) 8 (.solo 7 (.solo 9 .done))) 8 (.solo 6 (.solo 7 (.solo 9 .done))))) 8 (.solo 4 (.take 5 (.solo 6 (.solo 7 (.solo 9 .done)))))) 8 (.solo 1 (.solo 4 (.take 5 (.solo 6 (.solo 7 (.solo 9 .done))))))) 8 (.duo 1 (.duo 2 (.solo 4 (.take 5 (.solo 6 (.solo 7 (.solo 9 .done))))) 4 (.take 5 (.solo 2 (.solo 6 (.solo 7 (.solo 9 .done)))))) 2 (.solo 1 (.solo 4 (.take 5 (.solo 6 (.solo 7 (.solo 9 .done)))))))) 2 (.duo 0 (.duo 1 (.duo 4 (.take 5 (.duo 6 (.duo 7 (.solo 8 (.solo 9 .done)) 8 (.solo 7 (.solo 9 .done))) 8 (.solo 6 (.solo 7 (.solo 9 .done))))) 8 (.solo 4 (.take 5 (.solo 6 (.solo 7 (.solo 9 .done)))))) 8 (.solo 1 (.solo 4 (.take 5 (.solo 6 (.solo 7 (.solo 9 .done))))))) 8 (.solo 0 (.solo 1 (.solo 4 (.take 5 (.solo 6 (.solo 7 (.solo 9 .done)))))))) 8 (.duo 0 (.duo 1 (.duo 2 (.solo 4 (.take 5 (.solo 6 (.solo 7 (.solo 9 .done))))) 4 (.take 5 (.solo 2 (.solo 6 (.solo 7 (.solo 9 .done)))))) 2 (.solo 1 (.solo 4 (.take 5 (.solo 6 (.solo 7 (.solo 9 .done))))))) 2 (.solo 0 (.solo 1 (.solo 4 (.take 5 (.solo 6 (.solo 7 (.solo 9 .done)))))))))) (by decide +kernel) ?_; conv => whnf)
    | (refine And.intro ?_ ?_ <;> conv => whnf)
    | (refine CallOK.useR (c_From_N) [] rfl rfl rfl trivial (fun v_ mem_ hR => ?_); obtain ⟨h_, rfl, rfl⟩ := hR; have ha_ := SrcAt.zero 0; refine ⟨rfl, ?_⟩; (conv => whnf); refine mapK_eval (cs' := [.slice none 0 0, ii 0, wv h_]) rfl ?_; conv => whnf)
    | (have g_ := a0_; (have hm_ := mostB (by first | exact .inl hy_ | exact .inr (.inl hy_) | exact .inr (.inr hy_)); (refine CallOK.useD (c_DrawOf5_N (by assumption) hm_.1 hm_.2) [2] rfl rfl rfl ⟨⟨⟨_, rfl, .lit rfl (fun _ h_ => h_) (fun v hv => okB0_spec (allL_spec rfl v hv))⟩⟩, trivial⟩ (fun v_ mem_ hR => ?_); obtain ⟨b0_, b1_, o_, h_, ha_, rfl, rfl⟩ := hR; refine ⟨rfl, pt b0_ b1_, fun _ => rfl, ?_⟩; (conv => whnf); refine mapK_eval (cs' := [.slice none 0 0, ii o_, wv h_]) rfl ?_; conv => whnf)))
    | (have hm_ := mostB (by first | exact .inl hy_ | exact .inr (.inl hy_) | exact .inr (.inr hy_)); (refine CallOK.useD (c_DrawOf5_N (by assumption) hm_.1 hm_.2) [2] rfl rfl rfl ⟨⟨⟨_, rfl, .lit rfl (fun _ h_ => h_) (fun v hv => okB0_spec (allL_spec rfl v hv))⟩⟩, trivial⟩ (fun v_ mem_ hR => ?_); obtain ⟨a0_, a1_, o_, h_, ha_, rfl, rfl⟩ := hR; refine ⟨rfl, pt a0_ a1_, fun _ => rfl, ?_⟩; (conv => whnf); refine mapK_eval (cs' := [.slice none 0 0, ii o_, wv h_]) rfl ?_; conv => whnf))
    | (refine CallOK.useD (c_PickM_N (xs := [3, 12, 100]) (by assumption) (by decide) (by decide)) [2, 3] rfl rfl rfl ⟨⟨⟨_, rfl, .lit rfl (fun _ h_ => h_) (fun v hv => okB0_spec (allL_spec rfl v hv))⟩⟩, ⟨⟨_, rfl, .plain rfl (fun _ h_ => by cases h_) (il_plain _)⟩⟩, trivial⟩ (fun v_ mem_ hR => ?_); obtain ⟨y_, o_, h_, hy_, ha_, rfl, rfl⟩ := hR; refine ⟨rfl, ii y_, fun _ => rfl, ?_⟩; (conv => whnf); refine mapK_eval (cs' := [.slice none 0 0, ii o_, wv h_]) rfl ?_; conv => whnf)
    | (refine CallOK.useD (c_PickM_N (xs := [3, 12, 100, 1000]) (by assumption) (by decide) (by decide)) [2, 5] rfl rfl rfl ⟨⟨⟨_, rfl, .lit rfl (fun _ h_ => h_) (fun v hv => okB0_spec (allL_spec rfl v hv))⟩⟩, ⟨⟨_, rfl, .plain rfl (fun _ h_ => by cases h_) (il_plain _)⟩⟩, trivial⟩ (fun v_ mem_ hR => ?_); obtain ⟨y_, o_, h_, hy_, ha_, rfl, rfl⟩ := hR; refine ⟨rfl, ii y_, fun _ => rfl, ?_⟩; (conv => whnf); refine mapK_eval (cs' := [.slice none 0 0, ii o_, wv h_]) rfl ?_; conv => whnf)
    | (refine CallOK.useD (c_Next_N (m := 12) (by assumption)) [2] rfl rfl rfl ⟨⟨⟨_, rfl, .lit rfl (fun _ h_ => h_) (fun v hv => okB0_spec (allL_spec rfl v hv))⟩⟩, trivial⟩ (fun v_ mem_ hR => ?_); obtain ⟨x12_, o_, h_, hx12_, ha_, rfl, rfl⟩ := hR; refine ⟨rfl, ii x12_, fun _ => rfl, ?_⟩; (conv => whnf); refine mapK_eval (cs' := [.slice none 0 0, ii o_, wv h_]) rfl ?_; conv => whnf)
    | (refine CallOK.useD (c_Draw5_N (by assumption)) [2] rfl rfl rfl ⟨⟨⟨_, rfl, .lit rfl (fun _ h_ => h_) (fun v hv => okB0_spec (allL_spec rfl v hv))⟩⟩, trivial⟩ (fun v_ mem_ hR => ?_); obtain ⟨c0_, c1_, o_, h_, ha_, rfl, rfl⟩ := hR; refine ⟨rfl, pt c0_ c1_, fun _ => rfl, ?_⟩; (conv => whnf); refine mapK_eval (cs' := [.slice none 0 0, ii o_, wv h_]) rfl ?_; conv => whnf)
    | (show OutK _ _ _ _; exact out_forget [] ⟨_, _, _, _, rfl, rfl⟩ rfl (okB2_spec rfl) trivial rfl rfl)
    | (refine StoreK.mk rfl ?_; conv => whnf)
    | exact join_same
    | exact (by assumption : (_ : Bool) = (_ : Bool))
    | (refine br_true (by assumption) ?_; conv => whnf)
    | (refine br_false (by assumption) ?_; conv => whnf)
    | (refine br_not ?_; conv => whnf)
    | (refine br_code ?_; conv => whnf)
    | (with_reducible refine br_and ?_; conv => whnf)
    | (with_reducible refine br_or ?_; conv => whnf)
    | (refine br_eq2 ?_; conv => whnf)
    | (refine draw_auto (by decide +kernel) ?_; conv => whnf)
    | (refine draw_asg (by decide +kernel) ?_; conv => whnf)
    | (refine draw_st (by decide +kernel) ?_; conv => whnf)
    | (refine draw_call (by decide +kernel) ?_; conv => whnf)
    | (refine enter_same (loop_n 12 ?_); conv => whnf)
    | (refine next_same ?_; conv => whnf)
    | (refine mapK_row (by assumption) ?_; conv => whnf)
    | (refine mapK_plain (Plain.of rfl) ?_; conv => whnf)
    | (refine mapK_lit ?_; conv => whnf)
    | (refine br_split (fun _ => ?_) (fun _ => ?_) <;> conv => whnf)
    | exact (rfl : (_ : Value) = _)
    | (simp only [*]; exact (rfl : (_ : Value) = _))
    | (simp [*]; done))

set_option maxHeartbeats 2000000 in
theorem c_DrawFd_N   : CallOK Try.prog n_spec_DrawFareyDistance [.slice none 0 0] [] (fun v m_ => ∃ x y x2 y2, v = t2 (pt x y) (pt x2 y2) ∧ m_ = []) := by
  refine callOK_ofF good fn_spec_DrawFareyDistance ?_
  conv => whnf
  all_goals (repeat' first
    | (refine draw_pt (.take 1 (.duo 0 (.solo 2 (.solo 3 (.solo 4 .done))) 2 (.solo 0 (.solo 3 (.solo 4 .done))))) (by decide +kernel) ?_; conv => whnf)
    | (refine draw_pt (.join [1, 0, 2] (.duo 0 (.duo 1 (.solo 2 .done) 2 (.solo 1 .done)) 1 (.solo 0 (.solo 2 .done))) (.solo 3 .done)) (by decide +kernel) ?_; conv => whnf)
    | (refine draw_pt (.take 0 (.duo 1 (.duo 2 (.solo 3 (.solo 4 .done)) 3 (.solo 2 (.solo 4 .done))) 2 (.solo 1 (.solo 3 (.solo 4 .done))))) (by decide +kernel) ?_; conv => whnf)
    | (refine draw_pt (.take 0 (.take 2 (.duo 1 (.solo 3 (.solo 4 (.solo 5 (.solo 6 .done)))) 3 (.duo 1 (.solo 4 (.solo 5 (.solo 6 .done))) 4 (.solo 1 (.solo 5 (.solo 6 .done))))))) (by decide +kernel) ?_; conv => whnf)
    | (refine draw_pt (.take 1 (.take 2 (.duo 0 (.solo 3 (.solo 4 (.solo 5 (.solo 6 (.solo 7 .done))))) 3 (.duo 0 (.solo 4 (.solo 5 (.solo 6 (.solo 7 .done)))) 4 (.duo 0 (.solo 5 (.solo 6 (.solo 7 .done))) 5 (.solo 0 (.solo 6 (.solo 7 .done)))))))) (by decide +kernel) ?_; conv => whnf)
    | (refine draw_pt (.take 3 (.trio 0 (.trio 1 (.trio 2 (.duo 4 (.take 5 (.duo 6 (.duo 7 (.solo 8 (.solo 9 .done)) 8 (.solo 7 (.solo 9 .done))) 8 (.solo 6 (.solo 7 (.solo 9 .done))))) 8 (.solo 4 (.take 5 (.solo 6 (.solo 7 (.solo 9 .done)))))) 4 (.take 5 (.duo 2 (.duo 6 (.duo 7 (.solo 8 (.solo 9 .done)) 8 (.solo 7 (.solo 9 .done))) 8 (.solo 6 (.solo 7 (.solo 9 .done)))) 8 (.solo 2 (.solo 6 (.solo 7 (.solo 9 .done)))))) 8 (.duo 2 (.solo 4 (.take 5 (.solo 6 (.solo 7 (.solo 9 .done))))) 4 (.take 5 (.solo 2 (.solo 6 (.solo 7 (.solo 9 .done))))))) 2 (.duo 1 (.duo 4 (.take 5 (.duo 6 (.duo 7 (.solo 8 (.solo 9 .done)) 8 (.solo 7 (.solo 9 .done))) 8 (.solo 6 (.solo 7 (.solo 9 .done))))) 8 (.solo 4 (.take 5 (.solo 6 (.solo 7 (.solo 9 .done)))))) 8 (.solo 1 (.solo 4 (.take 5 (.solo 6 (.solo 7 (.solo 9 .done))))))) 8 (.duo 1 (.duo 2 (.solo 4 (.take 5 (.solo 6 (.solo 7 (.solo 9 .done))))) 4 (.take 5 (.solo 2 (.solo 6 (.solo 7 (.solo 9 .done)))))) 2 (.solo 1 (.solo 4 (.take 5 (.solo 6 (.solo 7 (.solo 9 .done)))))))) 2 (.duo 0 (.duo 1 (.duo 4 (.take 5 (.duo 6 (.duo 7 (.solo 8 (.solo 9 .done)) 8 (.solo 7 (.solo 9 .done))) 8 (.solo 6 (.solo 7 (.solo 9 .done))))) 8 (.solo 4 (.take 5 (.solo 6 (.solo 7 (.solo 9 .done)))))) 8 (.solo 1 (.solo 4 (.take 5 (.solo 6 (.solo 7 (.solo 9 .done))))))) 8 (.solo 0 (.solo 1 (.solo 4 (.take 5 (.solo 6 (.solo 7 (.solo 9 .done)))))))) 8 (.duo 0 (.duo 1 (.duo 2 (.solo 4 (.take 5 (.solo 6 (.solo 7 (.solo 9 .done))))) 4 (.take 5 (.solo 2 (.solo 6 (.solo 7 (.solo 9 .done)))))) 2 (.solo 1 (.solo 4 (.take 5 (.solo 6 (.solo 7 (.solo 9 .done))))))) 2 (.solo 0 (.solo 1 (.solo 4 (.take 5 (.solo 6 (.solo 7 (.solo 9 .done)))))))))) (by decide +kernel) ?_; conv => whnf)
    | (refine And.intro ?_ ?_ <;> conv => whnf)
    | (refine CallOK.useR (c_From_N) [] rfl rfl rfl trivial (fun v_ mem_ hR => ?_); obtain ⟨h_, rfl, rfl⟩ := hR; have ha_ := SrcAt.zero 0; refine ⟨rfl, ?_⟩; (conv => whnf); refine mapK_eval (cs' := [.slice none 0 0, ii 0, wv h_]) rfl ?_; conv => whnf)
    | (refine CallOK.useD (c_Draw5_N (by assumption)) [2] rfl rfl rfl ⟨⟨⟨_, rfl, .lit rfl (fun _ h_ => h_) (fun v hv => okB0_spec (allL_spec rfl v hv))⟩⟩, trivial⟩ (fun v_ mem_ hR => ?_); obtain ⟨a0_, a1_, o_, h_, ha_, rfl, rfl⟩ := hR; refine ⟨rfl, pt a0_ a1_, fun _ => rfl, ?_⟩; (conv => whnf); refine mapK_eval (cs' := [.slice none 0 0, ii o_, wv h_]) rfl ?_; conv => whnf)
    | (have hm_ := mostB (by first | exact .inl hy_ | exact .inr (.inl hy_) | exact .inr (.inr hy_)); (refine CallOK.useD (c_DrawOf5_N (by assumption) hm_.1 hm_.2) [2] rfl rfl rfl ⟨⟨⟨_, rfl, .lit rfl (fun _ h_ => h_) (fun v hv => okB0_spec (allL_spec rfl v hv))⟩⟩, trivial⟩ (fun v_ mem_ hR => ?_); obtain ⟨b0_, b1_, o_, h_, ha_, rfl, rfl⟩ := hR; refine ⟨rfl, pt b0_ b1_, fun _ => rfl, ?_⟩; (conv => whnf); refine mapK_eval (cs' := [.slice none 0 0, ii o_, wv h_]) rfl ?_; conv => whnf))
    | (refine CallOK.useD (c_PickM_N (xs := [3, 12, 100, 1000]) (by assumption) (by decide) (by decide)) [2, 4] rfl rfl rfl ⟨⟨⟨_, rfl, .lit rfl (fun _ h_ => h_) (fun v hv => okB0_spec (allL_spec rfl v hv))⟩⟩, ⟨⟨_, rfl, .plain rfl (fun _ h_ => by cases h_) (il_plain _)⟩⟩, trivial⟩ (fun v_ mem_ hR => ?_); obtain ⟨y_, o_, h_, hy_, ha_, rfl, rfl⟩ := hR; refine ⟨rfl, ii y_, fun _ => rfl, ?_⟩; (conv => whnf); refine mapK_eval (cs' := [.slice none 0 0, ii o_, wv h_]) rfl ?_; conv => whnf)
    | (refine CallOK.useD (c_Next_N (m := 12) (by assumption)) [2] rfl rfl rfl ⟨⟨⟨_, rfl, .lit rfl (fun _ h_ => h_) (fun v hv => okB0_spec (allL_spec rfl v hv))⟩⟩, trivial⟩ (fun v_ mem_ hR => ?_); obtain ⟨x12_, o_, h_, hx12_, ha_, rfl, rfl⟩ := hR; refine ⟨rfl, ii x12_, fun _ => rfl, ?_⟩; (conv => whnf); refine mapK_eval (cs' := [.slice none 0 0, ii o_, wv h_]) rfl ?_; conv => whnf)
    | (show OutK _ _ _ _; exact out_forget [] ⟨_, _, _, _, rfl, rfl⟩ rfl (okB2_spec rfl) trivial rfl rfl)
    | (refine StoreK.mk rfl ?_; conv => whnf)
    | exact join_same
    | exact (by assumption : (_ : Bool) = (_ : Bool))
    | (refine br_true (by assumption) ?_; conv => whnf)
    | (refine br_false (by assumption) ?_; conv => whnf)
    | (refine br_not ?_; conv => whnf)
    | (refine br_code ?_; conv => whnf)
    | (with_reducible refine br_and ?_; conv => whnf)
    | (with_reducible refine br_or ?_; conv => whnf)
    | (refine br_eq2 ?_; conv => whnf)
    | (refine draw_auto (by decide +kernel) ?_; conv => whnf)
    | (refine draw_asg (by decide +kernel) ?_; conv => whnf)
    | (refine draw_st (by decide +kernel) ?_; conv => whnf)
    | (refine draw_call (by decide +kernel) ?_; conv => whnf)
    | (refine enter_same (loop_n 12 ?_); conv => whnf)
    | (refine next_same ?_; conv => whnf)
    | (refine mapK_row (by assumption) ?_; conv => whnf)
    | (refine mapK_plain (Plain.of rfl) ?_; conv => whnf)
    | (refine mapK_lit ?_; conv => whnf)
    | (refine br_split (fun _ => ?_) (fun _ => ?_) <;> conv => whnf)
    | exact (rfl : (_ : Value) = _)
    | (simp only [*]; exact (rfl : (_ : Value) = _))
    | (simp [*]; done))

set_option maxHeartbeats 2000000 in
theorem c_DrawAp_N   : CallOK Try.prog n_spec_DrawApplyToFraction [.slice none 0 0] [] (fun v m_ => ∃ a1 a2 a3 a4 x y, v = t2 (q4 a1 a2 a3 a4) (pt x y) ∧ m_ = []) := by
  refine callOK_ofF good fn_spec_DrawApplyToFraction ?_
  conv => whnf
  all_goals (repeat' first
    | (refine draw_pt (.take 1 (.duo 0 (.solo 2 (.solo 3 (.solo 4 .done))) 2 (.solo 0 (.solo 3 (.solo 4 .done))))) (by decide +kernel) ?_; conv => whnf)
    | (refine draw_pt (.join [1, 0, 2] (.duo 0 (.duo 1 (.solo 2 .done) 2 (.solo 1 .done)) 1 (.solo 0 (.solo 2 .done))) (.solo 3 .done)) (by decide +kernel) ?_; conv => whnf)
    | (refine draw_pt (.take 0 (.duo 1 (.duo 2 (.solo 3 (.solo 4 .done)) 3 (.solo 2 (.solo 4 .done))) 2 (.solo 1 (.solo 3 (.solo 4 .done))))) (by decide +kernel) ?_; conv => whnf)
    | (refine draw_pt (.take 0 (.take 2 (.duo 1 (.solo 3 (.solo 4 (.solo 5 (.solo 6 .done)))) 3 (.duo 1 (.solo 4 (.solo 5 (.solo 6 .done))) 4 (.solo 1 (.solo 5 (.solo 6 .done))))))) (by decide +kernel) ?_; conv => whnf)
    | (refine draw_pt (.take 1 (.take 2 (.duo 0 (.solo 3 (.solo 4 (.solo 5 (.solo 6 (.solo 7 .done))))) 3 (.duo 0 (.solo 4 (.solo 5 (.solo 6 (.solo 7 .done)))) 4 (.duo 0 (.solo 5 (.solo 6 (.solo 7 .done))) 5 (.solo 0 (.solo 6 (.solo 7 .done)))))))) (by decide +kernel) ?_; conv => whnf)
    | (refine draw_pt (.take 3 (.trio 0 (.trio 1 (.trio 2 (.duo 4 (.take 5 (.duo 6 (.duo 7 (.solo 8 (.solo 9 .done)) 8 (.solo 7 (.solo 9 .done))) 8 (.solo 6 (.solo 7 (.solo 9 .done))))) 8 (.solo 4 (.take 5 (.solo 6 (.solo 7 (.solo 9 .done)))))) 4 (.take 5 (.duo 2 (.duo 6 (.duo 7 (.solo 8 (.solo 9 .done)) 8 (.solo 7 (.solo 9 .done))) 8 (.solo 6 (.solo 7 (.solo 9 .done)))) 8 (.solo 2 (.solo 6 (.solo 7 (.solo 9 .done)))))) 8 (.duo 2 (.solo 4 (.take 5 (.solo 6 (.solo 7 (.solo 9 .done))))) 4 (.take 5 (.solo 2 (.solo 6 (.solo 7 (.solo 9 .done))))))) 2 (.duo 1 (.duo 4 (.take 5 (.duo 6 (.duo 7 (.solo 8 (.solo 9 .done)) 8 (.solo 7 (.solo 9 .done))) 8 (.solo 6 (.solo 7 (.solo 9 .done))))) 8 (.solo 4 (.take 5 (.solo 6 (.solo 7 (.solo 9 .done)))))) 8 (.solo 1 (.solo 4 (.take 5 (.solo 6 (.solo 7 (.solo 9 .done))))))) 8 (.duo 1 (.duo 2 (.solo 4 (.take 5 (.solo 6 (.solo 7 (.solo 9 .done))))) 4 (.take 5 (.solo 2 (.solo 6 (.solo 7 (.solo 9 .done)))))) 2 (.solo 1 (.solo 4 (.take 5 (.solo 6 (.solo 7 (.solo 9 .done)))))))) 2 (.duo 0 (.duo 1 (.duo 4 (.take 5 (.duo 6 (.duo 7 (.solo 8 (.solo 9 .done)) 8 (.solo 7 (.solo 9 .done))) 8 (.solo 6 (.solo 7 (.solo 9 .done))))) 8 (.solo 4 (.take 5 (.solo 6 (.solo 7 (.solo 9 .done)))))) 8 (.solo 1 (.solo 4 (.take 5 (.solo 6 (.solo 7 (.solo 9 .done))))))) 8 (.solo 0 (.solo 1 (.solo 4 (.take 5 (.solo 6 (.solo 7 (.solo 9 .done)))))))) 8 (.duo 0 (.duo 1 (.duo 2 (.solo 4 (.take 5 (.solo 6 (.solo 7 (.solo 9 .done))))) 4 (.take 5 (.solo 2 (.solo 6 (.solo 7 (.solo 9 .done)))))) 2 (.solo 1 (.solo 4 (.take 5 (.solo 6 (.solo 7 (.solo 9 .done))))))) 2 (.solo 0 (.solo 1 (.solo 4 (.take 5 (.solo 6 (.solo 7 (.solo 9 .done)))))))))) (by decide +kernel) ?_; conv => whnf)
    | (refine And.intro ?_ ?_ <;> conv => whnf)
    | (refine CallOK.useR (c_From_N) [] rfl rfl rfl trivial (fun v_ mem_ hR => ?_); obtain ⟨h_, rfl, rfl⟩ := hR; have ha_ := SrcAt.zero 0; refine ⟨rfl, ?_⟩; (conv => whnf); refine mapK_eval (cs' := [.slice none 0 0, ii 0, wv h_]) rfl ?_; conv => whnf)
    | (refine CallOK.useD (c_AnyMatrix_N (by assumption)) [2] rfl rfl rfl ⟨⟨⟨_, rfl, .lit rfl (fun _ h_ => h_) (fun v hv => okB0_spec (allL_spec rfl v hv))⟩⟩, trivial⟩ (fun v_ mem_ hR => ?_); obtain ⟨m1_, m2_, m3_, m4_, o_, h_, ha_, rfl, rfl⟩ := hR; refine ⟨rfl, q4 m1_ m2_ m3_ m4_, fun _ => rfl, ?_⟩; (conv => whnf); refine mapK_eval (cs' := [.slice none 0 0, ii o_, wv h_]) rfl ?_; conv => whnf)
    | (refine CallOK.useD (c_Draw5_N (by assumption)) [2] rfl rfl rfl ⟨⟨⟨_, rfl, .lit rfl (fun _ h_ => h_) (fun v hv => okB0_spec (allL_spec rfl v hv))⟩⟩, trivial⟩ (fun v_ mem_ hR => ?_); obtain ⟨a0_, a1_, o_, h_, ha_, rfl, rfl⟩ := hR; refine ⟨rfl, pt a0_ a1_, fun _ => rfl, ?_⟩; (conv => whnf); refine mapK_eval (cs' := [.slice none 0 0, ii o_, wv h_]) rfl ?_; conv => whnf)
    | (show OutK _ _ _ _; exact out_forget [] ⟨_, _, _, _, _, _, rfl, rfl⟩ rfl (okB2_spec rfl) trivial rfl rfl)
    | (refine StoreK.mk rfl ?_; conv => whnf)
    | exact join_same
    | exact (by assumption : (_ : Bool) = (_ : Bool))
    | (refine br_true (by assumption) ?_; conv => whnf)
    | (refine br_false (by assumption) ?_; conv => whnf)
    | (refine br_not ?_; conv => whnf)
    | (refine br_code ?_; conv => whnf)
    | (with_reducible refine br_and ?_; conv => whnf)
    | (with_reducible refine br_or ?_; conv => whnf)
    | (refine br_eq2 ?_; conv => whnf)
    | (refine draw_auto (by decide +kernel) ?_; conv => whnf)
    | (refine draw_asg (by decide +kernel) ?_; conv => whnf)
    | (refine draw_st (by decide +kernel) ?_; conv => whnf)
    | (refine draw_call (by decide +kernel) ?_; conv => whnf)
    | (refine enter_same (loop_n 12 ?_); conv => whnf)
    | (refine next_same ?_; conv => whnf)
    | (refine mapK_row (by assumption) ?_; conv => whnf)
    | (refine mapK_plain (Plain.of rfl) ?_; conv => whnf)
    | (refine mapK_lit ?_; conv => whnf)
    | (refine br_split (fun _ => ?_) (fun _ => ?_) <;> conv => whnf)
    | exact (rfl : (_ : Value) = _)
    | (simp only [*]; exact (rfl : (_ : Value) = _))
    | (simp [*]; done))

end Go.Proofs.Ytnjepaboecijcaa
end

section
/-
  Geodesics: neighbours along the list, its ends, the distance with its code.
  Conditions: none.
-/
set_option linter.unusedVariables false
set_option linter.unusedSimpArgs false
namespace Go.Ev

theorem frac_eqs {u v : V2} (h1 : isFracF u.1 u.2 = true) (h2 : isFracF v.1 v.2 = true) (h : Eqs u v) : u = v := by
  rcases h with h | h
  · exact h
  · obtain ⟨p1, q1, z1, w1⟩ := frac_iff h1
    obtain ⟨p2, q2, z2, w2⟩ := frac_iff h2
    have e1 : u.1 = -v.1 := by rw [h]; rfl
    have e2 : u.2 = -v.2 := by rw [h]; rfl
    have k1 : u.2 = 0 := by omega
    have k2 : v.2 = 0 := by omega
    have := w1 k1; have := w2 k2
    omega
theorem near_eqs {u v u' v' : V2} (hu : Eqs u u') (hv : Eqs v v') (h : Near u v) : Near u' v' := by
  unfold Near det2 at h ⊢
  rcases hu.symm with e | e <;> rcases hv.symm with f | f <;> rw [e, f] <;> (try simp only [ngv, Int.neg_mul, Int.mul_neg, Int.neg_neg]) <;> omega
theorem getD_el {α : Type} {L : List α} {i : Nat} (h : i < L.length) (x : α) : L.getD i x = L[i] := by
  simp [List.getD_eq_getElem?_getD, List.getElem?_eq_getElem h]
theorem gbk_near {a b : Int} {z w : V2} (hz : BkOk a b z) (hw : BkOk a b w) (ha : isFracF a b = true) (h : Near z w) : Near (gbk a b z) (gbk a b w) := by
  obtain ⟨p, q, r, s, hU, hf⟩ := (tFr_lin ha).ex
  have := hU.near h
  rw [← hf, ← hf] at this
  exact near_eqs (gbk_eqs hz) (gbk_eqs hw) this
theorem near_F {u v : V2} (h1 : isPtF u.1 u.2 = true) (h2 : isPtF v.1 v.2 = true) (h : Near u v) : nearF u.1 u.2 v.1 v.2 = true := by
  have hd := det_pt h1 h2
  unfold nearF
  rw [sizeF_abs (by omega) (by omega), hd.1]
  unfold Near det2 at h
  exact decide_eq_true (by omega)
theorem geo_at {a b c d : Int} {i : Nat} (hi : i < (geoL a b c d).length) :
    (geoL a b c d).getD i (0, 0) = gbk a b ((chn (movX a b c d, movY a b c d)).getD ((chn (movX a b c d, movY a b c d)).length - 1 - i) (0, 0)) ∧ (chn (movX a b c d, movY a b c d)).length - 1 - i < (chn (movX a b c d, movY a b c d)).length := by
  unfold geoL at hi ⊢
  rw [List.length_map, List.length_reverse] at hi
  refine ⟨?_, by omega⟩
  rw [getD_el (by rw [List.length_map, List.length_reverse]; exact hi), List.getElem_map, List.getElem_reverse, getD_el (by omega)]
theorem getD_in {L : List V2} {i : Nat} (h : i < L.length) : L.getD i (0, 0) ∈ L := by
  rw [getD_el h]; exact List.getElem_mem _
section
variable {a b c d : Int}
theorem geo_in (h : MovOk a b c d) (hp : ptM a b c d = true) {i : Nat} (hi : i < (geoL a b c d).length) :
    isPtF ((geoL a b c d).getD i (0, 0)).1 ((geoL a b c d).getD i (0, 0)).2 = true ∧ isFracF ((geoL a b c d).getD i (0, 0)).1 ((geoL a b c d).getD i (0, 0)).2 = true := by
  obtain ⟨e, hj⟩ := geo_at hi
  rw [e]
  have hm := getD_in hj
  have hb := gchL_pt h hp _ hm
  exact ⟨hb.pt, gbk_frac h.fa hb (chn_fr _ (x := (movX a b c d, movY a b c d)) (mov_fr h hp) (Nat.le_refl _) _ hm)⟩
theorem geo_near (h : MovOk a b c d) (hp : ptM a b c d = true) {i : Nat} (hi : i + 1 < (geoL a b c d).length) :
    nearF ((geoL a b c d).getD i (0, 0)).1 ((geoL a b c d).getD i (0, 0)).2 ((geoL a b c d).getD (i + 1) (0, 0)).1 ((geoL a b c d).getD (i + 1) (0, 0)).2 = true := by
  have i1 := (geo_in h hp (by omega : i < _)).1
  have i2 := (geo_in h hp hi).1
  refine near_F i1 i2 ?_
  obtain ⟨e1, hj1⟩ := geo_at (by omega : i < (geoL a b c d).length)
  obtain ⟨e2, hj2⟩ := geo_at hi
  rw [e1, e2]
  have b1 := gchL_pt h hp _ (getD_in hj1)
  have b2 := gchL_pt h hp _ (getD_in hj2)
  refine gbk_near b1 b2 h.fa (Near.symm ?_)
  have hl : (geoL a b c d).length = (chn (movX a b c d, movY a b c d)).length := by unfold geoL; rw [List.length_map, List.length_reverse]
  have := chn_near _ (x := (movX a b c d, movY a b c d)) (mov_fr h hp) (Nat.le_refl _) ((chn (movX a b c d, movY a b c d)).length - 1 - (i + 1)) (by omega)
  rw [show (chn (movX a b c d, movY a b c d)).length - 1 - (i + 1) + 1 = (chn (movX a b c d, movY a b c d)).length - 1 - i from by omega] at this
  exact this
theorem chn_ne {x : V2} (h : FrOk x.1 x.2) : ∃ t, chn x = x :: t := by
  by_cases hp : x.2 > 0
  · exact ⟨_, chn_pos h hp⟩
  · exact ⟨[], chn_zero h hp⟩
theorem geo_pos (h : MovOk a b c d) (hp : ptM a b c d = true) : 0 < (geoL a b c d).length := by
  obtain ⟨t, e⟩ := chn_ne (x := (movX a b c d, movY a b c d)) (mov_fr h hp)
  unfold geoL
  rw [List.length_map, List.length_reverse, e]; simp
theorem geo_head (h : MovOk a b c d) (hp : ptM a b c d = true) : (geoL a b c d).getD 0 (0, 0) = (a, b) := by
  have hF := mov_fr h hp
  obtain ⟨e1, hj⟩ := geo_at (geo_pos h hp)
  rw [e1, Nat.sub_zero]
  have hl : (chn (movX a b c d, movY a b c d)).getD ((chn (movX a b c d, movY a b c d)).length - 1) (0, 0) = (1, 0) := by
    by_cases h1 : 1 ≤ movY a b c d
    · have := chn_last _ (x := (movX a b c d, movY a b c d)) hF h1 (Nat.le_refl _)
      rw [this]; simp
    · have h0 := hF.b0
      have hz : movY a b c d = 0 := by omega
      have := mov_zero h hp hz
      rw [chn_zero (x := (movX a b c d, movY a b c d)) hF (by show ¬ movY a b c d > 0; omega)]
      simp [hz, this]
  rw [hl]
  exact bk_one h.fa
theorem geo_last (h : MovOk a b c d) (hp : ptM a b c d = true) : (geoL a b c d).getD ((geoL a b c d).length - 1) (0, 0) = (c, d) := by
  have hF := mov_fr h hp
  have hP := geo_pos h hp
  obtain ⟨e1, hj⟩ := geo_at (by omega : (geoL a b c d).length - 1 < (geoL a b c d).length)
  rw [e1]
  have hl : (geoL a b c d).length = (chn (movX a b c d, movY a b c d)).length := by unfold geoL; rw [List.length_map, List.length_reverse]
  obtain ⟨t, e⟩ := chn_ne (x := (movX a b c d, movY a b c d)) hF
  rw [hl, show (chn (movX a b c d, movY a b c d)).length - 1 - ((chn (movX a b c d, movY a b c d)).length - 1) = 0 from by omega, e]
  show gbk a b (movX a b c d, movY a b c d) = (c, d)
  have hb := BkOk.mov h
  exact frac_eqs (gbk_frac h.fa hb hF) h.fc ((gbk_eqs hb).symm.trans (tFr_mov h))

/-! ### The distance with its code -/
def fdE (a b c d : Int) : Int := selF (isPtF a b && isPtF c d) (selF (isFracF a b && isFracF c d) (selF (isPtF (movX a b c d) (movY a b c d)) 0 3) 2) 1
def fdV (a b c d : Int) : Int := selF (isPtF a b && isPtF c d) (selF (isFracF a b && isFracF c d) (selF (isPtF (movX a b c d) (movY a b c d)) (levL (movX a b c d) (movY a b c d)) 0) 0) 0
theorem fdE_zero (h : fdE a b c d = 0) : (isPtF a b && isPtF c d) = true ∧ (isFracF a b && isFracF c d) = true ∧ isPtF (movX a b c d) (movY a b c d) = true := by
  unfold fdE at h
  cases h1 : (isPtF a b && isPtF c d)
  · rw [h1] at h; simp [selF] at h
  · cases h2 : (isFracF a b && isFracF c d)
    · rw [h1, h2] at h; simp [selF] at h
    · cases h3 : isPtF (movX a b c d) (movY a b c d)
      · rw [h1, h2, h3] at h; simp [selF] at h
      · exact ⟨rfl, rfl, rfl⟩
theorem fdE_ok (h1 : (isPtF a b && isPtF c d) = true) (h2 : (isFracF a b && isFracF c d) = true) (h3 : isPtF (movX a b c d) (movY a b c d) = true) : fdE a b c d = 0 ∧ fdV a b c d = levL (movX a b c d) (movY a b c d) := by
  unfold fdE fdV; rw [h1, h2, h3]; exact ⟨rfl, rfl⟩
theorem fdE_mov (h : fdE a b c d = 0) : MovOk a b c d ∧ ptM a b c d = true ∧ fdV a b c d = levL (movX a b c d) (movY a b c d) := by
  obtain ⟨h1, h2, h3⟩ := fdE_zero h
  have := h2
  simp only [Bool.and_eq_true] at this
  exact ⟨⟨this.1, this.2⟩, h3, (fdE_ok h1 h2 h3).2⟩
theorem fd_sym (h : fdE a b c d = 0) (k : fdE c d a b = 0) : fdV c d a b = fdV a b c d := by
  obtain ⟨h1, h2, h3⟩ := fdE_mov h
  obtain ⟨k1, k2, k3⟩ := fdE_mov k
  rw [h3, k3]
  exact dist_sym h1 h2 k2
def tmE (a b : Int) : Int := selF (isPtF (tm0 a b) (tm1 a b)) 0 3
def tmX (a b : Int) : Int := selF (isPtF (tm0 a b) (tm1 a b)) (tm0 a b) 0
def tmY (a b : Int) : Int := selF (isPtF (tm0 a b) (tm1 a b)) (tm1 a b) 0
theorem tmE_zero {a b : Int} (h : tmE a b = 0) : tmX a b = tm0 a b ∧ tmY a b = tm1 a b := by
  unfold tmE at h
  unfold tmX tmY
  cases h1 : isPtF (tm0 a b) (tm1 a b)
  · rw [h1] at h; simp [selF] at h
  · exact ⟨rfl, rfl⟩
theorem fd_m (h : fdE a b c d = 0) (k1 : tmE a b = 0) (k2 : tmE c d = 0) (k : fdE (tmX a b) (tmY a b) (tmX c d) (tmY c d) = 0) : fdV (tmX a b) (tmY a b) (tmX c d) (tmY c d) = fdV a b c d := by
  obtain ⟨e1, e2⟩ := tmE_zero k1
  obtain ⟨e3, e4⟩ := tmE_zero k2
  rw [e1, e2, e3, e4] at k ⊢
  obtain ⟨h1, h2, h3⟩ := fdE_mov h
  obtain ⟨g1, g2, g3⟩ := fdE_mov k
  rw [h3, g3]
  exact dist_m h1 h2 g1 g2
theorem fd_len (h : fdE a b c d = 0) : decide (((geoL a b c d).length : Int) = w64 (fdV a b c d + 1)) = true := by
  obtain ⟨h1, h2, h3⟩ := fdE_mov h
  have hb := geo_bd h1 h2
  have hl := geo_len h1 h2
  rw [h3]
  exact decide_eq_true (by rw [w64_in (by omega) (by omega)]; exact hl)
theorem fd_one (h : fdE a b c d = 0) (hne : ¬ (a = c ∧ b = d)) : nearF a b c d = decide (fdV a b c d = 1) := by
  obtain ⟨h1, h2, h3⟩ := fdE_mov h
  rw [h3]
  exact lev_one h1 h2 hne
end
end Go.Ev
end

section
/-
  Contracts of functions of the program (printed by a program of this work; Lean checks each).
  Conditions: as each contract states.
-/
namespace Go.Proofs.Ytnjepaboecijcaa
open Go.Ev Go.RowKit
set_option maxRecDepth 100000
set_option linter.unusedVariables false
set_option linter.unusedSimpArgs false

attribute [local irreducible] isPtF isFracF plusF detF turnX turnY mateX mateY movX movY levL gnx chn geoL apF

theorem c_impl_FareyDistance_all (a b c d : Int) : Pure Try.prog n_impl_FareyDistance [pt a b, pt c d] (t2 (ii (fdV a b c d)) (ii (fdE a b c d))) := by
  cases hp : (isPtF a b && isPtF c d)
  · have e : fdV a b c d = 0 ∧ fdE a b c d = 1 := by unfold fdV fdE; rw [hp]; exact ⟨rfl, rfl⟩
    rw [e.1, e.2]; exact c_impl_FareyDistance_no1 hp
  · cases hf : (isFracF a b && isFracF c d)
    · have e : fdV a b c d = 0 ∧ fdE a b c d = 2 := by unfold fdV fdE; rw [hp, hf]; exact ⟨rfl, rfl⟩
      rw [e.1, e.2]; exact c_impl_FareyDistance_no2 hp hf
    · by_cases hn : a = c ∧ b = d
      · obtain ⟨rfl, rfl⟩ := hn
        have hp1 : isPtF a b = true := by simpa using hp
        have hf1 : isFracF a b = true := by simpa using hf
        have s1 := mov_self hf1
        have hM : isPtF (movX a b a b) (movY a b a b) = true := by rw [s1.1, s1.2]; exact isPtF_iff.2 (by omega)
        have l0 : levL (movX a b a b) (movY a b a b) = 0 := by have q := lev_small (mov_fr ⟨hf1, hf1⟩ hM) (by rw [s1.2]; omega); rw [q, s1.2]
        have e := fdE_ok hp hf hM
        rw [e.1, e.2, l0]; exact c_impl_FareyDistance_same hp1 hf1
      · cases hM : isPtF (movX a b c d) (movY a b c d)
        · have e : fdV a b c d = 0 ∧ fdE a b c d = 3 := by unfold fdV fdE; rw [hp, hf, hM]; exact ⟨rfl, rfl⟩
          rw [e.1, e.2]; exact c_impl_FareyDistance_no3 hp hf hn hM
        · have e := fdE_ok hp hf hM
          rw [e.1, e.2]; exact c_impl_FareyDistance_ok hp hf hn hM
theorem c_impl_GeodesicOf_good {a b c d : Int} (h : fdE a b c d = 0) : CallOK Try.prog n_impl_GeodesicOf [pt a b, pt c d] [] (fun v m_ => ∃ n k sp, Row (pl (geoL a b c d)) sp n k 2 ∧ n ≤ 1000001 ∧ v = t2 (.slice (some ⟨0, 0, none⟩) n k) (ii 0) ∧ m_ = [(pl (geoL a b c d) ++ sp, some t_impl_Point)]) := by
  obtain ⟨hp, hf, hM⟩ := fdE_zero h
  by_cases hn : a = c ∧ b = d
  · obtain ⟨rfl, rfl⟩ := hn
    exact c_impl_GeodesicOf_same (by simpa using hp) (by simpa using hf)
  · exact c_impl_GeodesicOf_ok hp hf hM
theorem c_impl_GeodesicOf_bad {a b c d : Int} (h : ¬ fdE a b c d = 0) : CallOK Try.prog n_impl_GeodesicOf [pt a b, pt c d] [] (fun v m_ => v = t2 (.slice none 0 0) (ii (fdE a b c d)) ∧ m_ = []) := by
  cases hp : (isPtF a b && isPtF c d)
  · have e : fdE a b c d = 1 := by unfold fdE; rw [hp]; rfl
    rw [e]; exact c_impl_GeodesicOf_no1 hp
  · cases hf : (isFracF a b && isFracF c d)
    · have e : fdE a b c d = 2 := by unfold fdE; rw [hp, hf]; rfl
      rw [e]; exact c_impl_GeodesicOf_no2 hp hf
    · cases hM : isPtF (movX a b c d) (movY a b c d)
      · have e : fdE a b c d = 3 := by unfold fdE; rw [hp, hf, hM]; rfl
        rw [e]
        by_cases hn : a = c ∧ b = d
        · obtain ⟨rfl, rfl⟩ := hn
          have hf1 : isFracF a b = true := by simpa using hf
          have s1 := mov_self hf1
          rw [s1.1, s1.2, isPtF_iff.2 (by omega)] at hM; cases hM
        · exact c_impl_GeodesicOf_no3 hp hf hM
      · exact absurd (fdE_ok hp hf hM).1 h

theorem c_spec_FareyDistance_all (a b c d : Int) : Pure Try.prog n_spec_FareyDistance [pt a b, pt c d] (t2 (ii (fdV a b c d)) (ii (fdE a b c d))) := by
  cases hp : (isPtF a b && isPtF c d)
  · have e : fdV a b c d = 0 ∧ fdE a b c d = 1 := by unfold fdV fdE; rw [hp]; exact ⟨rfl, rfl⟩
    rw [e.1, e.2]; exact c_spec_FareyDistance_no1 hp
  · cases hf : (isFracF a b && isFracF c d)
    · have e : fdV a b c d = 0 ∧ fdE a b c d = 2 := by unfold fdV fdE; rw [hp, hf]; exact ⟨rfl, rfl⟩
      rw [e.1, e.2]; exact c_spec_FareyDistance_no2 hp hf
    · by_cases hn : a = c ∧ b = d
      · obtain ⟨rfl, rfl⟩ := hn
        have hp1 : isPtF a b = true := by simpa using hp
        have hf1 : isFracF a b = true := by simpa using hf
        have s1 := mov_self hf1
        have hM : isPtF (movX a b a b) (movY a b a b) = true := by rw [s1.1, s1.2]; exact isPtF_iff.2 (by omega)
        have l0 : levL (movX a b a b) (movY a b a b) = 0 := by have q := lev_small (mov_fr ⟨hf1, hf1⟩ hM) (by rw [s1.2]; omega); rw [q, s1.2]
        have e := fdE_ok hp hf hM
        rw [e.1, e.2, l0]; exact c_spec_FareyDistance_same hp1 hf1
      · cases hM : isPtF (movX a b c d) (movY a b c d)
        · have e : fdV a b c d = 0 ∧ fdE a b c d = 3 := by unfold fdV fdE; rw [hp, hf, hM]; exact ⟨rfl, rfl⟩
          rw [e.1, e.2]; exact c_spec_FareyDistance_no3 hp hf hn hM
        · have e := fdE_ok hp hf hM
          rw [e.1, e.2]; exact c_spec_FareyDistance_ok hp hf hn hM
theorem c_spec_GeodesicOf_good {a b c d : Int} (h : fdE a b c d = 0) : CallOK Try.prog n_spec_GeodesicOf [pt a b, pt c d] [] (fun v m_ => ∃ n k sp, Row (pl (geoL a b c d)) sp n k 2 ∧ n ≤ 1000001 ∧ v = t2 (.slice (some ⟨0, 0, none⟩) n k) (ii 0) ∧ m_ = [(pl (geoL a b c d) ++ sp, some t_impl_Point)]) := by
  obtain ⟨hp, hf, hM⟩ := fdE_zero h
  by_cases hn : a = c ∧ b = d
  · obtain ⟨rfl, rfl⟩ := hn
    exact c_spec_GeodesicOf_same (by simpa using hp) (by simpa using hf)
  · exact c_spec_GeodesicOf_ok hp hf hn hM
theorem c_spec_GeodesicOf_bad {a b c d : Int} (h : ¬ fdE a b c d = 0) : CallOK Try.prog n_spec_GeodesicOf [pt a b, pt c d] [] (fun v m_ => v = t2 (.slice none 0 0) (ii (fdE a b c d)) ∧ m_ = []) := by
  cases hp : (isPtF a b && isPtF c d)
  · have e : fdE a b c d = 1 := by unfold fdE; rw [hp]; rfl
    rw [e]; exact c_spec_GeodesicOf_no1 hp
  · cases hf : (isFracF a b && isFracF c d)
    · have e : fdE a b c d = 2 := by unfold fdE; rw [hp, hf]; rfl
      rw [e]; exact c_spec_GeodesicOf_no2 hp hf
    · cases hM : isPtF (movX a b c d) (movY a b c d)
      · have e : fdE a b c d = 3 := by unfold fdE; rw [hp, hf, hM]; rfl
        rw [e]
        by_cases hn : a = c ∧ b = d
        · obtain ⟨rfl, rfl⟩ := hn
          have hf1 : isFracF a b = true := by simpa using hf
          have s1 := mov_self hf1
          rw [s1.1, s1.2, isPtF_iff.2 (by omega)] at hM; cases hM
        · exact c_spec_GeodesicOf_no3 hp hf hn hM
      · exact absurd (fdE_ok hp hf hM).1 h

theorem c_impl_FareyDistance_good {a b c d : Int} (h : fdE a b c d = 0) : Pure Try.prog n_impl_FareyDistance [pt a b, pt c d] (t2 (ii (fdV a b c d)) (ii 0)) := by
  have := c_impl_FareyDistance_all a b c d
  rw [h] at this; exact this
theorem c_impl_Apply_m {a b : Int} (h : isFracF a b = true) : Pure Try.prog n_impl_ApplyToFraction [q4 2 1 1 1, pt a b] (t2 (pt (tmX a b) (tmY a b)) (ii (tmE a b))) := by
  have := c_impl_ApplyToFraction (a := 2) (b := 1) (c := 1) (d := 1) (e := a) (f := b)
  have e1 : ((isPtF 2 1 && isPtF 1 1) && isPtF a b) = true := by rw [(frac_iff h).1, isPtF_iff.2 (by omega), isPtF_iff.2 (by omega)]; rfl
  have e2 : nearF 2 1 1 1 = true := by decide +kernel
  rw [e1, h, e2] at this
  exact this
theorem c_near_list {a b c d : Int} (h : MovOk a b c d) (hp : ptM a b c d = true) {i : Nat} (hi : i + 1 < (geoL a b c d).length) :
    Pure Try.prog n_impl_AreNeighbours [pt ((geoL a b c d).getD i (0, 0)).1 ((geoL a b c d).getD i (0, 0)).2, pt ((geoL a b c d).getD (i + 1) (0, 0)).1 ((geoL a b c d).getD (i + 1) (0, 0)).2] (t2 (bb true) (ii 0)) := by
  have g1 := geo_in h hp (by omega : i < _)
  have g2 := geo_in h hp hi
  have g3 := geo_near h hp hi
  have := c_impl_AreNeighbours (a := ((geoL a b c d).getD i (0, 0)).1) (b := ((geoL a b c d).getD i (0, 0)).2) (c := ((geoL a b c d).getD (i + 1) (0, 0)).1) (d := ((geoL a b c d).getD (i + 1) (0, 0)).2)
  rw [g1.1, g1.2, g2.1, g2.2, g3] at this
  exact this
theorem c_near_one {a b c d : Int} (h : fdE a b c d = 0) (hne : ¬ (a = c ∧ b = d)) : Pure Try.prog n_impl_AreNeighbours [pt a b, pt c d] (t2 (bb (decide (fdV a b c d = 1))) (ii 0)) := by
  obtain ⟨h1, h2, h3⟩ := fdE_zero h
  have := c_impl_AreNeighbours (a := a) (b := b) (c := c) (d := d)
  rw [h1, h2, fd_one h hne] at this
  exact this

theorem c_points5 {ps : List (Int × Int)} {sp sq : List Value} {n n2 c c2 : Nat} (h1 : Row (pl ps) sp n c 2) (h2 : Row (pl ps) sq n2 c2 2) (hn : n ≤ 1000000000) : CallOK Try.prog n_laws_points5 [.slice (some ⟨0, 0, none⟩) n c, .slice (some ⟨1, 0, none⟩) n2 c2] [(pl ps ++ sp, some t_impl_Point), (pl ps ++ sq, some t_impl_Point)] (fun v m_ => v = bb true ∧ m_ = [(pl ps ++ sp, some t_impl_Point), (pl ps ++ sq, some t_impl_Point)]) := by
  obtain rfl := row_same h1 h2 (by decide); refine callOK_ofF good fn_laws_points5 ?_
  conv => whnf
  all_goals (repeat' first
    | (refine br_true ?_ ?_; (focus (simp; done)); conv => whnf)
    | (refine br_false ?_ ?_; (focus (simp; done)); conv => whnf)
    | (refine enter_forget [] (loop_rec (fun (s : Int) => match s with | i => [.slice (some ⟨0, 0, none⟩) n c, .slice (some ⟨1, 0, none⟩) n c2, wild, wild, wild, ii i, wild, wild, wild, wild, wild, wild, wild, wild, wild, wild, wild, wild, wild, wild, wild, wild, wild, wild, wild, wild]) (fun (s : Int) => match s with | i => [(pl ps ++ sp, some t_impl_Point), (pl ps ++ sq, some t_impl_Point)]) (fun (s : Int) => match s with | i => ((n : Int) - i).toNat) (fun (s : Int) => match s with | i => 0 ≤ i ∧ i ≤ (n : Int)) (0) (by (try clear IH); (try simp only [decide_eq_true_eq, decide_eq_false_iff_not, Bool.not_eq_true, Bool.not_eq_false, Bool.not_eq_eq_eq_not, Bool.not_true, Bool.not_false] at *); omega) ?_) (tmR_rfl rfl rfl) ⟨⟨⟨_, rfl, .plain rfl rfl (by first | exact Plain.of rfl | exact Row.all (by assumption))⟩⟩, ⟨⟨_, rfl, .plain rfl rfl (by first | exact Plain.of rfl | exact Row.all (by assumption))⟩⟩, trivial⟩ rfl rfl; rintro fuel_ i hI IH; replace hI : 0 ≤ i ∧ i ≤ (n : Int) := hI; conv => whnf)
    | exact next_forget [] (IH (w64 (i + 1)) (idx_next hI (by assumption) (by omega)) (idx_mu hI (by assumption) (by omega))) (tmR_rfl rfl rfl) ⟨⟨⟨_, rfl, .plain rfl rfl (by first | exact Plain.of rfl | exact Row.all (by assumption))⟩⟩, ⟨⟨_, rfl, .plain rfl rfl (by first | exact Plain.of rfl | exact Row.all (by assumption))⟩⟩, trivial⟩ rfl rfl
    | (refine br_in (by (try clear IH); (try simp only [decide_eq_true_eq, decide_eq_false_iff_not, Bool.not_eq_true, Bool.not_eq_false, Bool.not_eq_eq_eq_not, Bool.not_true, Bool.not_false] at *); omega) (by (try clear IH); (try simp only [decide_eq_true_eq, decide_eq_false_iff_not, Bool.not_eq_true, Bool.not_eq_false, Bool.not_eq_eq_eq_not, Bool.not_true, Bool.not_false] at *); omega) ?_; conv => whnf)
    | (refine force_eq (take_pt (i := (i).toNat) (by omega) (by (try clear IH); have := row_pl h1; (try simp only [decide_eq_true_eq, decide_eq_false_iff_not, Bool.not_eq_true, Bool.not_eq_false, Bool.not_eq_eq_eq_not, Bool.not_true, Bool.not_false] at *); omega)) ?_; conv => whnf)
    | (refine force_eq (take_pt (i := (i).toNat) (by omega) (by (try clear IH); have := row_pl h2; (try simp only [decide_eq_true_eq, decide_eq_false_iff_not, Bool.not_eq_true, Bool.not_eq_false, Bool.not_eq_eq_eq_not, Bool.not_true, Bool.not_false] at *); omega)) ?_; conv => whnf)
    | exact out_forget [] ⟨rfl, rfl⟩ rfl (okB2_spec rfl) ⟨⟨⟨_, rfl, .plain rfl rfl (by first | exact Plain.of rfl | exact Row.all (by assumption))⟩⟩, ⟨⟨_, rfl, .plain rfl rfl (by first | exact Plain.of rfl | exact Row.all (by assumption))⟩⟩, trivial⟩ rfl rfl
    | (refine StoreK.mk rfl ?_; conv => whnf)
    | exact join_same
    | exact (by assumption : (_ : Bool) = (_ : Bool))
    | (refine br_true (by assumption) ?_; conv => whnf)
    | (refine br_false (by assumption) ?_; conv => whnf)
    | (refine br_not ?_; conv => whnf)
    | (refine br_code ?_; conv => whnf)
    | (with_reducible refine br_and ?_; conv => whnf)
    | (with_reducible refine br_or ?_; conv => whnf)
    | (refine br_eq2 ?_; conv => whnf)
    | (refine draw_auto (by decide +kernel) ?_; conv => whnf)
    | (refine draw_asg (by decide +kernel) ?_; conv => whnf)
    | (refine draw_st (by decide +kernel) ?_; conv => whnf)
    | (refine draw_call (by decide +kernel) ?_; conv => whnf)
    | (refine enter_same (loop_n 12 ?_); conv => whnf)
    | (refine next_same ?_; conv => whnf)
    | (refine mapK_row (by assumption) ?_; conv => whnf)
    | (refine mapK_plain (Plain.of rfl) ?_; conv => whnf)
    | (refine mapK_lit ?_; conv => whnf)
    | (refine br_split (fun _ => ?_) (fun _ => ?_) <;> conv => whnf)
    | exact (rfl : (_ : Value) = _)
    | (simp only [*]; exact (rfl : (_ : Value) = _))
    | (simp [*]; done))

theorem c_points5_nil   : Pure Try.prog n_laws_points5 [.slice none 0 0, .slice none 0 0] (bb true) := by
  refine pure_of good fn_laws_points5 rfl rfl ?_
  conv => whnf
  all_goals (repeat' first
    | (refine br_true ?_ ?_; (focus (simp; done)); conv => whnf)
    | (refine br_false ?_ ?_; (focus (simp; done)); conv => whnf)
    | (refine StoreK.mk rfl ?_; conv => whnf)
    | exact join_same
    | exact (by assumption : (_ : Bool) = (_ : Bool))
    | (refine br_true (by assumption) ?_; conv => whnf)
    | (refine br_false (by assumption) ?_; conv => whnf)
    | (refine br_not ?_; conv => whnf)
    | (refine br_code ?_; conv => whnf)
    | (with_reducible refine br_and ?_; conv => whnf)
    | (with_reducible refine br_or ?_; conv => whnf)
    | (refine br_eq2 ?_; conv => whnf)
    | (refine draw_auto (by decide +kernel) ?_; conv => whnf)
    | (refine draw_asg (by decide +kernel) ?_; conv => whnf)
    | (refine draw_st (by decide +kernel) ?_; conv => whnf)
    | (refine draw_call (by decide +kernel) ?_; conv => whnf)
    | (refine enter_same (loop_n 12 ?_); conv => whnf)
    | (refine next_same ?_; conv => whnf)
    | (refine mapK_row (by assumption) ?_; conv => whnf)
    | (refine mapK_plain (Plain.of rfl) ?_; conv => whnf)
    | (refine mapK_lit ?_; conv => whnf)
    | (refine br_split (fun _ => ?_) (fun _ => ?_) <;> conv => whnf)
    | exact (rfl : (_ : Value) = _)
    | (simp only [*]; exact (rfl : (_ : Value) = _))
    | (simp [*]; done))

section
variable {a b c d : Int} {s : List Value} {n k : Nat}
theorem geo_ln (h : fdE a b c d = 0) (hr : Row (pl (geoL a b c d)) s n k 2) : decide ((n : Int) = w64 (fdV a b c d + 1)) = true := by
  rw [← row_pl hr]; exact fd_len h
theorem geo_ix (h : fdE a b c d = 0) (hr : Row (pl (geoL a b c d)) s n k 2) (hn : n ≤ 1000001) : (0 ≤ w64 ((n : Int) - 1) ∧ w64 ((n : Int) - 1) < (n : Int)) ∧ (w64 ((n : Int) - 1)).toNat < (geoL a b c d).length ∧ (w64 ((n : Int) - 1)).toNat = (geoL a b c d).length - 1 := by
  have h1 := geo_pos (fdE_mov h).1 (fdE_mov h).2.1
  have h2 := row_pl hr
  rw [w64_in (by omega) (by omega)]; omega
theorem geo_h1 (h : fdE a b c d = 0) : decide (((geoL a b c d).getD 0 (0, 0)).1 = a) = true := by rw [Go.Ev.geo_head (fdE_mov h).1 (fdE_mov h).2.1]; simp
theorem geo_h2 (h : fdE a b c d = 0) : decide (((geoL a b c d).getD 0 (0, 0)).2 = b) = true := by rw [Go.Ev.geo_head (fdE_mov h).1 (fdE_mov h).2.1]; simp
theorem geo_l1 (h : fdE a b c d = 0) (hr : Row (pl (geoL a b c d)) s n k 2) (hn : n ≤ 1000001) : decide (((geoL a b c d).getD (w64 ((n : Int) - 1)).toNat (0, 0)).1 = c) = true := by rw [(geo_ix h hr hn).2.2, geo_last (fdE_mov h).1 (fdE_mov h).2.1]; simp
theorem geo_l2 (h : fdE a b c d = 0) (hr : Row (pl (geoL a b c d)) s n k 2) (hn : n ≤ 1000001) : decide (((geoL a b c d).getD (w64 ((n : Int) - 1)).toNat (0, 0)).2 = d) = true := by rw [(geo_ix h hr hn).2.2, geo_last (fdE_mov h).1 (fdE_mov h).2.1]; simp
theorem geo_lp {i : Int} (hr : Row (pl (geoL a b c d)) s n k 2) (hn : n ≤ 1000001) (hI : 1 ≤ i ∧ i ≤ (n : Int)) (hl : decide (i < (n : Int)) = true) : (0 ≤ w64 (i - 1) ∧ w64 (i - 1) < (n : Int)) ∧ (w64 (i - 1)).toNat < (geoL a b c d).length ∧ i.toNat < (geoL a b c d).length ∧ (w64 (i - 1)).toNat + 1 = i.toNat ∧ (1 ≤ w64 (i + 1) ∧ w64 (i + 1) ≤ (n : Int)) ∧ ((n : Int) - w64 (i + 1)).toNat < ((n : Int) - i).toNat ∧ 0 ≤ i ∧ i < (n : Int) := by
  have h2 := row_pl hr
  have h3 := of_decide_eq_true hl
  rw [w64_in (by omega) (by omega), w64_in (by omega) (by omega)]; omega
theorem geo_nb {i : Int} (h : fdE a b c d = 0) (hr : Row (pl (geoL a b c d)) s n k 2) (hn : n ≤ 1000001) (hI : 1 ≤ i ∧ i ≤ (n : Int)) (hl : decide (i < (n : Int)) = true) : Pure Try.prog n_impl_AreNeighbours [pt ((geoL a b c d).getD (w64 (i - 1)).toNat (0, 0)).1 ((geoL a b c d).getD (w64 (i - 1)).toNat (0, 0)).2, pt ((geoL a b c d).getD i.toNat (0, 0)).1 ((geoL a b c d).getD i.toNat (0, 0)).2] (t2 (bb true) (ii 0)) := by
  have g := geo_lp hr hn hI hl
  have := c_near_list (fdE_mov h).1 (fdE_mov h).2.1 (i := (w64 (i - 1)).toNat) (by omega)
  rw [g.2.2.2.1] at this
  exact this
end

end Go.Proofs.Ytnjepaboecijcaa
end

section
/-
  The rows of laws over drawn bytes: a contract without memory, used at the row. Conditions: none.
-/
set_option linter.unusedVariables false
namespace Go.Ev
open Go.RowKit

theorem run_nil {P : Program} {f : Nat} {W : World} {R : Value → Mem → Prop} (h : CallOK P f [.slice none 0 0] [] R) (hR : ∀ v m, R v m → v = .bool true) :
    Calls P f #[.slice none 0 0] W (fun e w' => e = .returned (.bool true) ∧ Below W.heap.size W w') := by
  have hm : MemAt ⟨W, []⟩ [] [] W := by
    refine ⟨rfl, rfl, rfl, Nat.le_refl _, rfl, fun b hb => (by cases hb), fun i j cs t hi => ?_, fun _ _ _ => rfl, fun k cs t hk => ?_, fun k cs t hk => ?_, fun k cs hk => ?_⟩
    · cases i <;> cases hi
    · cases k <;> cases hk
    · cases k <;> cases hk
    · cases k <;> cases hk
  have := h.run ⟨W, []⟩ [] W hm (fun v hv => by rw [List.mem_singleton] at hv; subst hv; trivial)
  refine this.mono fun e w' ⟨v, mem', σ, h1, h2, h3, h4⟩ => ?_
  have := hR _ _ h4
  subst this
  exact ⟨h1, h3.toBelow⟩

end Go.Ev
end
