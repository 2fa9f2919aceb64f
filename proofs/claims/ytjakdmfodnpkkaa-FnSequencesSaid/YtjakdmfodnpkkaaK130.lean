/-
  Contracts of functions of the program (printed by a program of this work; Lean checks each).
  Conditions: as each contract states.
-/
import Derived.Test.YtjakdmfodnpkkaaK43
import Derived.Test.YtjakdmfodnpkkaaK25
import Derived.Test.YtjakdmfodnpkkaaKM2
import Derived.Test.YtjakdmfodnpkkaaKM3
namespace Go.Proofs.Ytjakdmfodnpkkaa
open Go.Ev Go.RowKit
set_option maxRecDepth 100000
set_option linter.unusedVariables false
set_option linter.unusedSimpArgs false

/-- No sail: the code tells why. -/
def sqE (a b c d : Int) : Int := if isAngF a b c d = true then 3 else 1
structure SailX (a b c d : Int) : Prop where
  no : isAngF a b c d = false ∨ (AngOk a b c d ∧ sailR a b c d = none)
theorem sqE_nz (a b c d : Int) : decide (sqE a b c d = 0) = false := by
  unfold sqE; split <;> rfl
theorem sail_em (a b c d : Int) : (∃ T, SailG a b c d T) ∨ SailX a b c d := by
  cases h : isAngF a b c d
  · exact .inr ⟨.inl h⟩
  · cases hr : sailR a b c d with
    | none => exact .inr ⟨.inr ⟨ang_ok h, hr⟩⟩
    | some r => exact .inl ⟨r.2, ang_ok h, r.1, hr⟩

theorem draw_smB {m x y : Int} (hx : Below1 (w64 (w64 (2 * m) + 1)) x) (hy : Below1 (w64 (w64 (2 * m) + 1)) y) : 1 ≤ m → m ≤ 1000000 → sm (w64 (x - m)) 1000000 ∧ sm (w64 (y - m)) 1000000 := by
  intro h1 h2
  unfold Below1 at hx hy
  rw [w64_in (n := 2 * m) (by omega) (by omega), w64_in (n := 2 * m + 1) (by omega) (by omega)] at hx hy
  have := hx (by omega); have := hy (by omega)
  unfold sm
  rw [w64_in (n := x - m) (by omega) (by omega), w64_in (n := y - m) (by omega) (by omega)]
  omega
theorem part_nzB {a b : Int} (h : sm a 1000000 ∧ sm b 1000000) (h0 : ¬ (a = 0 ∧ b = 0)) : decide (gcdF a b = 0) = false := by
  obtain ⟨h1, h2⟩ := h
  unfold sm at h1 h2
  exact decide_eq_false fun he => h0 ((gcdF_zero (by omega) (by omega)).1 he)
theorem mostS {y : Int} (h : y ∈ [3, 6, 12, 12, 100, 1000, 1000000]) : 1 ≤ y ∧ y ≤ 1000000 := by
  simp only [List.mem_cons, List.not_mem_nil, or_false] at h
  omega

attribute [local irreducible] gcdF detF plusF

set_option maxHeartbeats 1000000 in
theorem c_DrawPtB_L {zs : List Int} {off n c : Nat} {o h m : Int} (hz : n ≤ zs.length) (hb : ∀ z ∈ zs, IsByte z) (hn : n ≤ 4096) (ha : SrcAt n o) : CallOK Try.prog n_spec_l01DrawPoint [.pointer (some ⟨1, 0, none⟩), ii m] [(away off (bl zs), none), ([.slice (some ⟨0, off, none⟩) n c, ii o, wv h], some t_spec_l01Source)] (fun v m_ => ∃ x y o2 h2, (1 ≤ m → m ≤ 1000000 → sm x 1000000 ∧ sm y 1000000) ∧ SrcAt n o2 ∧ v = pt x y ∧ m_ = [(away off (bl zs), none), ([.slice (some ⟨0, off, none⟩) n c, ii o2, wv h2], some t_spec_l01Source)]) := by
  refine callOK_ofF good fn_spec_l01DrawPoint ?_
  conv => whnf
  all_goals (repeat' first
    | (refine CallOK.useD (c_Next_L hz hb hn (by assumption)) [0, 1] rfl rfl rfl ⟨⟨⟨_, rfl, .lit (away_conc (bl_plain _) _).symm (fun _ h_ => by cases h_) (away_ok (bl_plain _) _)⟩⟩, ⟨⟨_, rfl, .lit rfl (fun _ h_ => h_) (fun v hv => okB0_spec (allL_spec rfl v hv))⟩⟩, trivial⟩ (fun v_ mem_ hR => ?_); obtain ⟨x1_, o_, h_, hx1_, ha_, rfl, rfl⟩ := hR; refine ⟨rfl, ii x1_, fun _ => rfl, ?_⟩; (conv => whnf); refine mapK_eval (cs' := [.slice (some ⟨0, off, none⟩) n c, ii o_, wv h_]) rfl ?_; conv => whnf)
    | (show OutK _ _ _ _; (exact out_forget [] ⟨_, _, _, _, draw_smB (by assumption) (by assumption), ha_, rfl, rfl⟩ rfl (okB2_spec rfl) ⟨⟨⟨_, rfl, .lit (away_conc (bl_plain _) _).symm rfl (away_ok (bl_plain _) _)⟩⟩, ⟨⟨_, rfl, .lit rfl rfl (fun v hv => okB0_spec (allL_spec rfl v hv))⟩⟩, trivial⟩ rfl rfl))
    | (refine StoreK.mk rfl ?_; conv => whnf)
    | exact join_same
    | exact (by assumption : (_ : Bool) = (_ : Bool))
    | (refine br_true (by assumption) ?_; conv => whnf)
    | (refine br_false (by assumption) ?_; conv => whnf)
    | (refine br_not ?_; conv => whnf)
    | (refine br_code ?_; conv => whnf)
    | (with_reducible refine br_and ?_; conv => whnf)
    | (with_reducible refine br_or ?_; conv => whnf)
    | (refine br_eq2 ?_; conv => whnf)
    | (refine draw_auto (by decide +kernel) ?_; conv => whnf)
    | (refine draw_asg (by decide +kernel) ?_; conv => whnf)
    | (refine draw_st (by decide +kernel) ?_; conv => whnf)
    | (refine draw_call (by decide +kernel) ?_; conv => whnf)
    | (refine enter_same (loop_n 12 ?_); conv => whnf)
    | (refine next_same ?_; conv => whnf)
    | (refine mapK_row (by assumption) ?_; conv => whnf)
    | (refine mapK_plain (Plain.of rfl) ?_; conv => whnf)
    | (refine mapK_lit ?_; conv => whnf)
    | (refine br_split (fun _ => ?_) (fun _ => ?_) <;> conv => whnf)
    | exact (rfl : (_ : Value) = _)
    | (simp only [*]; exact (rfl : (_ : Value) = _))
    | (simp [*]; done))

set_option maxHeartbeats 1000000 in
theorem c_DrawPrB_L {zs : List Int} {off n c : Nat} {o h m : Int} (hz : n ≤ zs.length) (hb : ∀ z ∈ zs, IsByte z) (hn : n ≤ 4096) (ha : SrcAt n o) (hm1 : 1 ≤ m) (hm2 : m ≤ 1000000) : CallOK Try.prog n_spec_l01DrawPrimitive [.pointer (some ⟨1, 0, none⟩), ii m] [(away off (bl zs), none), ([.slice (some ⟨0, off, none⟩) n c, ii o, wv h], some t_spec_l01Source)] (fun v m_ => ∃ x y o2 h2, SrcAt n o2 ∧ v = pt x y ∧ m_ = [(away off (bl zs), none), ([.slice (some ⟨0, off, none⟩) n c, ii o2, wv h2], some t_spec_l01Source)]) := by
  refine callOK_ofF good fn_spec_l01DrawPrimitive ?_
  conv => whnf
  all_goals (repeat' first
    | (refine part_nzB (hp_ hm1 hm2) (nz_a ?_); assumption)
    | (refine part_nzB (hp_ hm1 hm2) (nz_b ?_); assumption)
    | (refine CallOK.useD (c_DrawPtB_L hz hb hn (by assumption)) [0, 1] rfl rfl rfl ⟨⟨⟨_, rfl, .lit (away_conc (bl_plain _) _).symm (fun _ h_ => by cases h_) (away_ok (bl_plain _) _)⟩⟩, ⟨⟨_, rfl, .lit rfl (fun _ h_ => h_) (fun v hv => okB0_spec (allL_spec rfl v hv))⟩⟩, trivial⟩ (fun v_ mem_ hR => ?_); obtain ⟨px_, py_, o_, h_, hp_, ha_, rfl, rfl⟩ := hR; refine ⟨rfl, pt px_ py_, fun _ => rfl, ?_⟩; (conv => whnf); refine mapK_eval (cs' := [.slice (some ⟨0, off, none⟩) n c, ii o_, wv h_]) rfl ?_; conv => whnf)
    | (show OutK _ _ _ _; (exact out_forget [] ⟨_, _, _, _, ha_, rfl, rfl⟩ rfl (okB2_spec rfl) ⟨⟨⟨_, rfl, .lit (away_conc (bl_plain _) _).symm rfl (away_ok (bl_plain _) _)⟩⟩, ⟨⟨_, rfl, .lit rfl rfl (fun v hv => okB0_spec (allL_spec rfl v hv))⟩⟩, trivial⟩ rfl rfl))
    | (refine StoreK.mk rfl ?_; conv => whnf)
    | exact join_same
    | exact (by assumption : (_ : Bool) = (_ : Bool))
    | (refine br_true (by assumption) ?_; conv => whnf)
    | (refine br_false (by assumption) ?_; conv => whnf)
    | (refine br_not ?_; conv => whnf)
    | (refine br_code ?_; conv => whnf)
    | (with_reducible refine br_and ?_; conv => whnf)
    | (with_reducible refine br_or ?_; conv => whnf)
    | (refine br_eq2 ?_; conv => whnf)
    | (refine (c_spec_l01Part ?_).call ?_ <;> conv => whnf)
    | (refine (c_spec_l01Part ?_).quiet ?_ <;> conv => whnf)
    | (refine draw_auto (by decide +kernel) ?_; conv => whnf)
    | (refine draw_asg (by decide +kernel) ?_; conv => whnf)
    | (refine draw_st (by decide +kernel) ?_; conv => whnf)
    | (refine draw_call (by decide +kernel) ?_; conv => whnf)
    | (refine enter_same (loop_n 12 ?_); conv => whnf)
    | (refine next_same ?_; conv => whnf)
    | (refine mapK_row (by assumption) ?_; conv => whnf)
    | (refine mapK_plain (Plain.of rfl) ?_; conv => whnf)
    | (refine mapK_lit ?_; conv => whnf)
    | (refine br_split (fun _ => ?_) (fun _ => ?_) <;> conv => whnf)
    | exact (rfl : (_ : Value) = _)
    | (simp only [*]; exact (rfl : (_ : Value) = _))
    | (simp [*]; done))

set_option maxHeartbeats 1000000 in
theorem c_Bad5_L {zs : List Int} {off n c : Nat} {o h a b : Int} (hz : n ≤ zs.length) (hb : ∀ z ∈ zs, IsByte z) (hn : n ≤ 4096) (ha : SrcAt n o) : CallOK Try.prog n_spec_l01Bad [.pointer (some ⟨1, 0, none⟩), pt a b] [(away off (bl zs), none), ([.slice (some ⟨0, off, none⟩) n c, ii o, wv h], some t_spec_l01Source)] (fun v m_ => ∃ x y o2 h2, SrcAt n o2 ∧ v = pt x y ∧ m_ = [(away off (bl zs), none), ([.slice (some ⟨0, off, none⟩) n c, ii o2, wv h2], some t_spec_l01Source)]) := by
  refine callOK_ofF good fn_spec_l01Bad ?_
  conv => whnf
  all_goals (repeat' first
    | (refine CallOK.useD (c_Next_L (m := 40) hz hb hn (by assumption)) [0, 1] rfl rfl rfl ⟨⟨⟨_, rfl, .lit (away_conc (bl_plain _) _).symm (fun _ h_ => by cases h_) (away_ok (bl_plain _) _)⟩⟩, ⟨⟨_, rfl, .lit rfl (fun _ h_ => h_) (fun v hv => okB0_spec (allL_spec rfl v hv))⟩⟩, trivial⟩ (fun v_ mem_ hR => ?_); obtain ⟨x40_, o_, h_, hx40_, ha_, rfl, rfl⟩ := hR; refine ⟨rfl, ii x40_, fun _ => rfl, ?_⟩; (conv => whnf); refine mapK_eval (cs' := [.slice (some ⟨0, off, none⟩) n c, ii o_, wv h_]) rfl ?_; conv => whnf)
    | (refine CallOK.useD (c_Next_L (m := 2) hz hb hn (by assumption)) [0, 1] rfl rfl rfl ⟨⟨⟨_, rfl, .lit (away_conc (bl_plain _) _).symm (fun _ h_ => by cases h_) (away_ok (bl_plain _) _)⟩⟩, ⟨⟨_, rfl, .lit rfl (fun _ h_ => h_) (fun v hv => okB0_spec (allL_spec rfl v hv))⟩⟩, trivial⟩ (fun v_ mem_ hR => ?_); obtain ⟨x2_, o_, h_, hx2_, ha_, rfl, rfl⟩ := hR; refine ⟨rfl, ii x2_, fun _ => rfl, ?_⟩; (conv => whnf); refine mapK_eval (cs' := [.slice (some ⟨0, off, none⟩) n c, ii o_, wv h_]) rfl ?_; conv => whnf)
    | (refine CallOK.useD (c_Pick_L (xs := [1000001, -1000001, 1099511627776]) hz hb hn (by assumption) (by decide) (by decide)) [0, 1, 4] rfl rfl rfl ⟨⟨⟨_, rfl, .lit (away_conc (bl_plain _) _).symm (fun _ h_ => by cases h_) (away_ok (bl_plain _) _)⟩⟩, ⟨⟨_, rfl, .lit rfl (fun _ h_ => h_) (fun v hv => okB0_spec (allL_spec rfl v hv))⟩⟩, ⟨⟨_, rfl, .plain rfl (fun _ h_ => by cases h_) (il_plain _)⟩⟩, trivial⟩ (fun v_ mem_ hR => ?_); obtain ⟨y_, o_, h_, ha_, rfl, rfl⟩ := hR; refine ⟨rfl, ii y_, fun _ => rfl, ?_⟩; (conv => whnf); refine mapK_eval (cs' := [.slice (some ⟨0, off, none⟩) n c, ii o_, wv h_]) rfl ?_; conv => whnf)
    | (show brK (decide (0 ≤ x2_ ∧ x2_ < _)) _ _; rcases two_of hx2_ with rfl | rfl <;> conv => whnf)
    | (show OutK _ _ _ _; (exact out_forget [] ⟨_, _, _, _, ha_, rfl, rfl⟩ rfl (okB2_spec rfl) ⟨⟨⟨_, rfl, .lit (away_conc (bl_plain _) _).symm rfl (away_ok (bl_plain _) _)⟩⟩, ⟨⟨_, rfl, .lit rfl rfl (fun v hv => okB0_spec (allL_spec rfl v hv))⟩⟩, trivial⟩ rfl rfl))
    | (refine StoreK.mk rfl ?_; conv => whnf)
    | exact join_same
    | exact (by assumption : (_ : Bool) = (_ : Bool))
    | (refine br_true (by assumption) ?_; conv => whnf)
    | (refine br_false (by assumption) ?_; conv => whnf)
    | (refine br_not ?_; conv => whnf)
    | (refine br_code ?_; conv => whnf)
    | (with_reducible refine br_and ?_; conv => whnf)
    | (with_reducible refine br_or ?_; conv => whnf)
    | (refine br_eq2 ?_; conv => whnf)
    | (refine draw_auto (by decide +kernel) ?_; conv => whnf)
    | (refine draw_asg (by decide +kernel) ?_; conv => whnf)
    | (refine draw_st (by decide +kernel) ?_; conv => whnf)
    | (refine draw_call (by decide +kernel) ?_; conv => whnf)
    | (refine enter_same (loop_n 12 ?_); conv => whnf)
    | (refine next_same ?_; conv => whnf)
    | (refine mapK_row (by assumption) ?_; conv => whnf)
    | (refine mapK_plain (Plain.of rfl) ?_; conv => whnf)
    | (refine mapK_lit ?_; conv => whnf)
    | (refine br_split (fun _ => ?_) (fun _ => ?_) <;> conv => whnf)
    | exact (rfl : (_ : Value) = _)
    | (simp only [*]; exact (rfl : (_ : Value) = _))
    | (simp [*]; done))

set_option maxHeartbeats 2000000 in
theorem c_DrOf3_L {zs : List Int} {off n c : Nat} {o h m : Int} (hz : n ≤ zs.length) (hb : ∀ z ∈ zs, IsByte z) (hn : n ≤ 4096) (ha : SrcAt n o) (hm1 : 1 ≤ m) (hm2 : m ≤ 1000000) : CallOK Try.prog n_spec_l03DrawOf [.pointer (some ⟨1, 0, none⟩), ii m] [(away off (bl zs), none), ([.slice (some ⟨0, off, none⟩) n c, ii o, wv h], some t_spec_l01Source)] (fun v m_ => ∃ x y x2 y2 o2 h2, SrcAt n o2 ∧ v = t2 (pt x y) (pt x2 y2) ∧ m_ = [(away off (bl zs), none), ([.slice (some ⟨0, off, none⟩) n c, ii o2, wv h2], some t_spec_l01Source)]) := by
  refine callOK_ofF good fn_spec_l03DrawOf ?_
  conv => whnf
  all_goals (repeat' first
    | (refine draw_pt (.join [1, 0, 2] (.duo 0 (.duo 1 (.solo 2 .done) 2 (.solo 1 .done)) 1 (.solo 0 (.solo 2 .done))) (.solo 3 .done)) (by decide +kernel) ?_; conv => whnf)
    | (refine draw_pt (.take 0 (.trio 1 (.duo 2 (.duo 3 (.duo 4 (.join [6, 5] (.duo 5 (.solo 6 .done) 6 (.solo 5 .done)) (.solo 7 .done)) 5 (.solo 4 (.solo 6 (.solo 7 .done)))) 5 (.solo 3 (.solo 4 (.solo 6 (.solo 7 .done))))) 5 (.solo 2 (.solo 3 (.solo 4 (.solo 6 (.solo 7 .done)))))) 2 (.duo 1 (.duo 3 (.duo 4 (.join [6, 5] (.duo 5 (.solo 6 .done) 6 (.solo 5 .done)) (.solo 7 .done)) 5 (.solo 4 (.solo 6 (.solo 7 .done)))) 5 (.solo 3 (.solo 4 (.solo 6 (.solo 7 .done))))) 5 (.solo 1 (.solo 3 (.solo 4 (.solo 6 (.solo 7 .done)))))) 5 (.join [1, 2] (.duo 1 (.solo 2 .done) 2 (.solo 1 .done)) (.solo 3 (.solo 4 (.solo 6 (.solo 7 .done))))))) (by decide +kernel) ?_; conv => whnf)
    | (refine draw_pt (.take 0 (.duo 1 (.duo 2 (.join [4, 3] (.duo 3 (.solo 4 .done) 4 (.solo 3 .done)) (.solo 5 .done)) 3 (.solo 2 (.solo 4 (.solo 5 .done)))) 3 (.solo 1 (.solo 2 (.solo 4 (.solo 5 .done)))))) (by decide +kernel) ?_; conv => whnf)
    | (refine And.intro ?_ ?_ <;> conv => whnf)
    | (have g_ := a0_; (refine CallOK.useD (c_DrawPrB_L hz hb hn (by assumption) hm1 hm2) [0, 1] rfl rfl rfl ⟨⟨⟨_, rfl, .lit (away_conc (bl_plain _) _).symm (fun _ h_ => by cases h_) (away_ok (bl_plain _) _)⟩⟩, ⟨⟨_, rfl, .lit rfl (fun _ h_ => h_) (fun v hv => okB0_spec (allL_spec rfl v hv))⟩⟩, trivial⟩ (fun v_ mem_ hR => ?_); obtain ⟨b0_, b1_, o_, h_, ha_, rfl, rfl⟩ := hR; refine ⟨rfl, pt b0_ b1_, fun _ => rfl, ?_⟩; (conv => whnf); refine mapK_eval (cs' := [.slice (some ⟨0, off, none⟩) n c, ii o_, wv h_]) rfl ?_; conv => whnf))
    | (refine CallOK.useD (c_DrawPrB_L hz hb hn (by assumption) hm1 hm2) [0, 1] rfl rfl rfl ⟨⟨⟨_, rfl, .lit (away_conc (bl_plain _) _).symm (fun _ h_ => by cases h_) (away_ok (bl_plain _) _)⟩⟩, ⟨⟨_, rfl, .lit rfl (fun _ h_ => h_) (fun v hv => okB0_spec (allL_spec rfl v hv))⟩⟩, trivial⟩ (fun v_ mem_ hR => ?_); obtain ⟨a0_, a1_, o_, h_, ha_, rfl, rfl⟩ := hR; refine ⟨rfl, pt a0_ a1_, fun _ => rfl, ?_⟩; (conv => whnf); refine mapK_eval (cs' := [.slice (some ⟨0, off, none⟩) n c, ii o_, wv h_]) rfl ?_; conv => whnf)
    | (refine CallOK.useD (c_Next_L hz hb hn (by assumption)) [0, 1] rfl rfl rfl ⟨⟨⟨_, rfl, .lit (away_conc (bl_plain _) _).symm (fun _ h_ => by cases h_) (away_ok (bl_plain _) _)⟩⟩, ⟨⟨_, rfl, .lit rfl (fun _ h_ => h_) (fun v hv => okB0_spec (allL_spec rfl v hv))⟩⟩, trivial⟩ (fun v_ mem_ hR => ?_); obtain ⟨x_, o_, h_, hx_, ha_, rfl, rfl⟩ := hR; refine ⟨rfl, ii x_, fun _ => rfl, ?_⟩; (conv => whnf); refine mapK_eval (cs' := [.slice (some ⟨0, off, none⟩) n c, ii o_, wv h_]) rfl ?_; conv => whnf)
    | (show OutK _ _ _ _; (exact out_forget [] ⟨_, _, _, _, _, _, ha_, rfl, rfl⟩ rfl (okB2_spec rfl) ⟨⟨⟨_, rfl, .lit (away_conc (bl_plain _) _).symm rfl (away_ok (bl_plain _) _)⟩⟩, ⟨⟨_, rfl, .lit rfl rfl (fun v hv => okB0_spec (allL_spec rfl v hv))⟩⟩, trivial⟩ rfl rfl))
    | (refine StoreK.mk rfl ?_; conv => whnf)
    | exact join_same
    | exact (by assumption : (_ : Bool) = (_ : Bool))
    | (refine br_true (by assumption) ?_; conv => whnf)
    | (refine br_false (by assumption) ?_; conv => whnf)
    | (refine br_not ?_; conv => whnf)
    | (refine br_code ?_; conv => whnf)
    | (with_reducible refine br_and ?_; conv => whnf)
    | (with_reducible refine br_or ?_; conv => whnf)
    | (refine br_eq2 ?_; conv => whnf)
    | (refine c_spec_l01Det.call ?_; conv => whnf)
    | (refine c_spec_l01Det.quiet ?_; conv => whnf)
    | (refine draw_auto (by decide +kernel) ?_; conv => whnf)
    | (refine draw_asg (by decide +kernel) ?_; conv => whnf)
    | (refine draw_st (by decide +kernel) ?_; conv => whnf)
    | (refine draw_call (by decide +kernel) ?_; conv => whnf)
    | (refine enter_same (loop_n 12 ?_); conv => whnf)
    | (refine next_same ?_; conv => whnf)
    | (refine mapK_row (by assumption) ?_; conv => whnf)
    | (refine mapK_plain (Plain.of rfl) ?_; conv => whnf)
    | (refine mapK_lit ?_; conv => whnf)
    | (refine br_split (fun _ => ?_) (fun _ => ?_) <;> conv => whnf)
    | exact (rfl : (_ : Value) = _)
    | (simp only [*]; exact (rfl : (_ : Value) = _))
    | (simp [*]; done))

set_option maxHeartbeats 2000000 in
theorem c_Dr3_L {zs : List Int} {off n c : Nat} {o h : Int} (hz : n ≤ zs.length) (hb : ∀ z ∈ zs, IsByte z) (hn : n ≤ 4096) (ha : SrcAt n o) : CallOK Try.prog n_spec_l03Draw [.pointer (some ⟨1, 0, none⟩)] [(away off (bl zs), none), ([.slice (some ⟨0, off, none⟩) n c, ii o, wv h], some t_spec_l01Source)] (fun v m_ => ∃ x y x2 y2 o2 h2, SrcAt n o2 ∧ v = t2 (pt x y) (pt x2 y2) ∧ m_ = [(away off (bl zs), none), ([.slice (some ⟨0, off, none⟩) n c, ii o2, wv h2], some t_spec_l01Source)]) := by
  refine callOK_ofF good fn_spec_l03Draw ?_
  conv => whnf
  all_goals (repeat' first
    | (refine draw_pt (.join [1, 0, 2] (.duo 0 (.duo 1 (.solo 2 .done) 2 (.solo 1 .done)) 1 (.solo 0 (.solo 2 .done))) (.solo 3 .done)) (by decide +kernel) ?_; conv => whnf)
    | (refine draw_pt (.take 0 (.trio 1 (.duo 2 (.duo 3 (.duo 4 (.join [6, 5] (.duo 5 (.solo 6 .done) 6 (.solo 5 .done)) (.solo 7 .done)) 5 (.solo 4 (.solo 6 (.solo 7 .done)))) 5 (.solo 3 (.solo 4 (.solo 6 (.solo 7 .done))))) 5 (.solo 2 (.solo 3 (.solo 4 (.solo 6 (.solo 7 .done)))))) 2 (.duo 1 (.duo 3 (.duo 4 (.join [6, 5] (.duo 5 (.solo 6 .done) 6 (.solo 5 .done)) (.solo 7 .done)) 5 (.solo 4 (.solo 6 (.solo 7 .done)))) 5 (.solo 3 (.solo 4 (.solo 6 (.solo 7 .done))))) 5 (.solo 1 (.solo 3 (.solo 4 (.solo 6 (.solo 7 .done)))))) 5 (.join [1, 2] (.duo 1 (.solo 2 .done) 2 (.solo 1 .done)) (.solo 3 (.solo 4 (.solo 6 (.solo 7 .done))))))) (by decide +kernel) ?_; conv => whnf)
    | (refine draw_pt (.take 0 (.duo 1 (.duo 2 (.join [4, 3] (.duo 3 (.solo 4 .done) 4 (.solo 3 .done)) (.solo 5 .done)) 3 (.solo 2 (.solo 4 (.solo 5 .done)))) 3 (.solo 1 (.solo 2 (.solo 4 (.solo 5 .done)))))) (by decide +kernel) ?_; conv => whnf)
    | (refine And.intro ?_ ?_ <;> conv => whnf)
    | (refine CallOK.useD (c_PickM_L (xs := [3, 6, 12, 12, 100, 1000, 1000000]) hz hb hn (by assumption) (by decide) (by decide)) [0, 1, 4] rfl rfl rfl ⟨⟨⟨_, rfl, .lit (away_conc (bl_plain _) _).symm (fun _ h_ => by cases h_) (away_ok (bl_plain _) _)⟩⟩, ⟨⟨_, rfl, .lit rfl (fun _ h_ => h_) (fun v hv => okB0_spec (allL_spec rfl v hv))⟩⟩, ⟨⟨_, rfl, .plain rfl (fun _ h_ => by cases h_) (il_plain _)⟩⟩, trivial⟩ (fun v_ mem_ hR => ?_); obtain ⟨y_, o_, h_, hy_, ha_, rfl, rfl⟩ := hR; refine ⟨rfl, ii y_, fun _ => rfl, ?_⟩; (conv => whnf); refine mapK_eval (cs' := [.slice (some ⟨0, off, none⟩) n c, ii o_, wv h_]) rfl ?_; conv => whnf)
    | (have hm_ := mostS hy_; (refine CallOK.useD (c_DrOf3_L hz hb hn (by assumption) hm_.1 hm_.2) [0, 1] rfl rfl rfl ⟨⟨⟨_, rfl, .lit (away_conc (bl_plain _) _).symm (fun _ h_ => by cases h_) (away_ok (bl_plain _) _)⟩⟩, ⟨⟨_, rfl, .lit rfl (fun _ h_ => h_) (fun v hv => okB0_spec (allL_spec rfl v hv))⟩⟩, trivial⟩ (fun v_ mem_ hR => ?_); obtain ⟨a0_, a1_, b0_, b1_, o_, h_, ha_, rfl, rfl⟩ := hR; refine ⟨rfl, t2 (pt a0_ a1_) (pt b0_ b1_), fun _ => rfl, ?_⟩; (conv => whnf); refine mapK_eval (cs' := [.slice (some ⟨0, off, none⟩) n c, ii o_, wv h_]) rfl ?_; conv => whnf))
    | (refine CallOK.useD (c_Next_L (m := 30) hz hb hn (by assumption)) [0, 1] rfl rfl rfl ⟨⟨⟨_, rfl, .lit (away_conc (bl_plain _) _).symm (fun _ h_ => by cases h_) (away_ok (bl_plain _) _)⟩⟩, ⟨⟨_, rfl, .lit rfl (fun _ h_ => h_) (fun v hv => okB0_spec (allL_spec rfl v hv))⟩⟩, trivial⟩ (fun v_ mem_ hR => ?_); obtain ⟨x30_, o_, h_, hx30_, ha_, rfl, rfl⟩ := hR; refine ⟨rfl, ii x30_, fun _ => rfl, ?_⟩; (conv => whnf); refine mapK_eval (cs' := [.slice (some ⟨0, off, none⟩) n c, ii o_, wv h_]) rfl ?_; conv => whnf)
    | (refine CallOK.useD (c_Bad5_L hz hb hn (by assumption)) [0, 1] rfl rfl rfl ⟨⟨⟨_, rfl, .lit (away_conc (bl_plain _) _).symm (fun _ h_ => by cases h_) (away_ok (bl_plain _) _)⟩⟩, ⟨⟨_, rfl, .lit rfl (fun _ h_ => h_) (fun v hv => okB0_spec (allL_spec rfl v hv))⟩⟩, trivial⟩ (fun v_ mem_ hR => ?_); obtain ⟨c0_, c1_, o_, h_, ha_, rfl, rfl⟩ := hR; refine ⟨rfl, pt c0_ c1_, fun _ => rfl, ?_⟩; (conv => whnf); refine mapK_eval (cs' := [.slice (some ⟨0, off, none⟩) n c, ii o_, wv h_]) rfl ?_; conv => whnf)
    | (show OutK _ _ _ _; (exact out_forget [] ⟨_, _, _, _, _, _, ha_, rfl, rfl⟩ rfl (okB2_spec rfl) ⟨⟨⟨_, rfl, .lit (away_conc (bl_plain _) _).symm rfl (away_ok (bl_plain _) _)⟩⟩, ⟨⟨_, rfl, .lit rfl rfl (fun v hv => okB0_spec (allL_spec rfl v hv))⟩⟩, trivial⟩ rfl rfl))
    | (refine StoreK.mk rfl ?_; conv => whnf)
    | exact join_same
    | exact (by assumption : (_ : Bool) = (_ : Bool))
    | (refine br_true (by assumption) ?_; conv => whnf)
    | (refine br_false (by assumption) ?_; conv => whnf)
    | (refine br_not ?_; conv => whnf)
    | (refine br_code ?_; conv => whnf)
    | (with_reducible refine br_and ?_; conv => whnf)
    | (with_reducible refine br_or ?_; conv => whnf)
    | (refine br_eq2 ?_; conv => whnf)
    | (refine c_spec_l01Plus.call ?_; conv => whnf)
    | (refine c_spec_l01Plus.quiet ?_; conv => whnf)
    | (refine draw_auto (by decide +kernel) ?_; conv => whnf)
    | (refine draw_asg (by decide +kernel) ?_; conv => whnf)
    | (refine draw_st (by decide +kernel) ?_; conv => whnf)
    | (refine draw_call (by decide +kernel) ?_; conv => whnf)
    | (refine enter_same (loop_n 12 ?_); conv => whnf)
    | (refine next_same ?_; conv => whnf)
    | (refine mapK_row (by assumption) ?_; conv => whnf)
    | (refine mapK_plain (Plain.of rfl) ?_; conv => whnf)
    | (refine mapK_lit ?_; conv => whnf)
    | (refine br_split (fun _ => ?_) (fun _ => ?_) <;> conv => whnf)
    | exact (rfl : (_ : Value) = _)
    | (simp only [*]; exact (rfl : (_ : Value) = _))
    | (simp [*]; done))

theorem c_DrSeq_L {zs : List Int} {off n c : Nat} (hz : n ≤ zs.length) (hb : ∀ z ∈ zs, IsByte z) (hn : n ≤ 4096) : CallOK Try.prog n_spec_DrawSequenceOf [.slice (some ⟨0, off, none⟩) n c] [(away off (bl zs), none)] (fun v m_ => ∃ x y x2 y2, v = t2 (pt x y) (pt x2 y2) ∧ m_ = [(away off (bl zs), none)]) := by
  refine callOK_ofF good fn_spec_DrawSequenceOf ?_
  conv => whnf
  all_goals (repeat' first
    | (refine draw_pt (.join [1, 0, 2] (.duo 0 (.duo 1 (.solo 2 .done) 2 (.solo 1 .done)) 1 (.solo 0 (.solo 2 .done))) (.solo 3 .done)) (by decide +kernel) ?_; conv => whnf)
    | (refine draw_pt (.take 0 (.trio 1 (.duo 2 (.duo 3 (.duo 4 (.join [6, 5] (.duo 5 (.solo 6 .done) 6 (.solo 5 .done)) (.solo 7 .done)) 5 (.solo 4 (.solo 6 (.solo 7 .done)))) 5 (.solo 3 (.solo 4 (.solo 6 (.solo 7 .done))))) 5 (.solo 2 (.solo 3 (.solo 4 (.solo 6 (.solo 7 .done)))))) 2 (.duo 1 (.duo 3 (.duo 4 (.join [6, 5] (.duo 5 (.solo 6 .done) 6 (.solo 5 .done)) (.solo 7 .done)) 5 (.solo 4 (.solo 6 (.solo 7 .done)))) 5 (.solo 3 (.solo 4 (.solo 6 (.solo 7 .done))))) 5 (.solo 1 (.solo 3 (.solo 4 (.solo 6 (.solo 7 .done)))))) 5 (.join [1, 2] (.duo 1 (.solo 2 .done) 2 (.solo 1 .done)) (.solo 3 (.solo 4 (.solo 6 (.solo 7 .done))))))) (by decide +kernel) ?_; conv => whnf)
    | (refine draw_pt (.take 0 (.duo 1 (.duo 2 (.join [4, 3] (.duo 3 (.solo 4 .done) 4 (.solo 3 .done)) (.solo 5 .done)) 3 (.solo 2 (.solo 4 (.solo 5 .done)))) 3 (.solo 1 (.solo 2 (.solo 4 (.solo 5 .done)))))) (by decide +kernel) ?_; conv => whnf)
    | (refine And.intro ?_ ?_ <;> conv => whnf)
    | (refine CallOK.useR (c_From_L hz hb hn) [0] rfl rfl rfl ⟨⟨⟨_, rfl, .lit (away_conc (bl_plain _) _).symm (fun _ h_ => by cases h_) (away_ok (bl_plain _) _)⟩⟩, trivial⟩ (fun v_ mem_ hR => ?_); obtain ⟨h_, rfl, rfl⟩ := hR; have ha_ := SrcAt.zero n; refine ⟨rfl, ?_⟩; (conv => whnf); refine mapK_eval (cs' := [.slice (some ⟨0, off, none⟩) n c, ii 0, wv h_]) rfl ?_; conv => whnf)
    | (refine CallOK.useD (c_Dr3_L hz hb hn (by assumption)) [0, 3] rfl rfl rfl ⟨⟨⟨_, rfl, .lit (away_conc (bl_plain _) _).symm (fun _ h_ => by cases h_) (away_ok (bl_plain _) _)⟩⟩, ⟨⟨_, rfl, .lit rfl (fun _ h_ => h_) (fun v hv => okB0_spec (allL_spec rfl v hv))⟩⟩, trivial⟩ (fun v_ mem_ hR => ?_); obtain ⟨a0_, a1_, b0_, b1_, o_, h_, ha_, rfl, rfl⟩ := hR; refine ⟨rfl, t2 (pt a0_ a1_) (pt b0_ b1_), fun _ => rfl, ?_⟩; (conv => whnf); refine mapK_eval (cs' := [.slice (some ⟨0, off, none⟩) n c, ii o_, wv h_]) rfl ?_; conv => whnf)
    | (show OutK _ _ _ _; exact out_forget [] ⟨_, _, _, _, rfl, rfl⟩ rfl (okB2_spec rfl) ⟨⟨⟨_, rfl, .lit (away_conc (bl_plain _) _).symm rfl (away_ok (bl_plain _) _)⟩⟩, trivial⟩ rfl rfl)
    | (refine StoreK.mk rfl ?_; conv => whnf)
    | exact join_same
    | exact (by assumption : (_ : Bool) = (_ : Bool))
    | (refine br_true (by assumption) ?_; conv => whnf)
    | (refine br_false (by assumption) ?_; conv => whnf)
    | (refine br_not ?_; conv => whnf)
    | (refine br_code ?_; conv => whnf)
    | (with_reducible refine br_and ?_; conv => whnf)
    | (with_reducible refine br_or ?_; conv => whnf)
    | (refine br_eq2 ?_; conv => whnf)
    | (refine draw_auto (by decide +kernel) ?_; conv => whnf)
    | (refine draw_asg (by decide +kernel) ?_; conv => whnf)
    | (refine draw_st (by decide +kernel) ?_; conv => whnf)
    | (refine draw_call (by decide +kernel) ?_; conv => whnf)
    | (refine enter_same (loop_n 12 ?_); conv => whnf)
    | (refine next_same ?_; conv => whnf)
    | (refine mapK_row (by assumption) ?_; conv => whnf)
    | (refine mapK_plain (Plain.of rfl) ?_; conv => whnf)
    | (refine mapK_lit ?_; conv => whnf)
    | (refine br_split (fun _ => ?_) (fun _ => ?_) <;> conv => whnf)
    | exact (rfl : (_ : Value) = _)
    | (simp only [*]; exact (rfl : (_ : Value) = _))
    | (simp [*]; done))

theorem c_DrLen_L {zs : List Int} {off n c : Nat} (hz : n ≤ zs.length) (hb : ∀ z ∈ zs, IsByte z) (hn : n ≤ 4096) : CallOK Try.prog n_spec_DrawSailLengths [.slice (some ⟨0, off, none⟩) n c] [(away off (bl zs), none)] (fun v m_ => ∃ x y x2 y2, v = t2 (pt x y) (pt x2 y2) ∧ m_ = [(away off (bl zs), none)]) := by
  refine callOK_ofF good fn_spec_DrawSailLengths ?_
  conv => whnf
  all_goals (repeat' first
    | (refine draw_pt (.join [1, 0, 2] (.duo 0 (.duo 1 (.solo 2 .done) 2 (.solo 1 .done)) 1 (.solo 0 (.solo 2 .done))) (.solo 3 .done)) (by decide +kernel) ?_; conv => whnf)
    | (refine draw_pt (.take 0 (.trio 1 (.duo 2 (.duo 3 (.duo 4 (.join [6, 5] (.duo 5 (.solo 6 .done) 6 (.solo 5 .done)) (.solo 7 .done)) 5 (.solo 4 (.solo 6 (.solo 7 .done)))) 5 (.solo 3 (.solo 4 (.solo 6 (.solo 7 .done))))) 5 (.solo 2 (.solo 3 (.solo 4 (.solo 6 (.solo 7 .done)))))) 2 (.duo 1 (.duo 3 (.duo 4 (.join [6, 5] (.duo 5 (.solo 6 .done) 6 (.solo 5 .done)) (.solo 7 .done)) 5 (.solo 4 (.solo 6 (.solo 7 .done)))) 5 (.solo 3 (.solo 4 (.solo 6 (.solo 7 .done))))) 5 (.solo 1 (.solo 3 (.solo 4 (.solo 6 (.solo 7 .done)))))) 5 (.join [1, 2] (.duo 1 (.solo 2 .done) 2 (.solo 1 .done)) (.solo 3 (.solo 4 (.solo 6 (.solo 7 .done))))))) (by decide +kernel) ?_; conv => whnf)
    | (refine draw_pt (.take 0 (.duo 1 (.duo 2 (.join [4, 3] (.duo 3 (.solo 4 .done) 4 (.solo 3 .done)) (.solo 5 .done)) 3 (.solo 2 (.solo 4 (.solo 5 .done)))) 3 (.solo 1 (.solo 2 (.solo 4 (.solo 5 .done)))))) (by decide +kernel) ?_; conv => whnf)
    | (refine And.intro ?_ ?_ <;> conv => whnf)
    | (refine CallOK.useR (c_From_L hz hb hn) [0] rfl rfl rfl ⟨⟨⟨_, rfl, .lit (away_conc (bl_plain _) _).symm (fun _ h_ => by cases h_) (away_ok (bl_plain _) _)⟩⟩, trivial⟩ (fun v_ mem_ hR => ?_); obtain ⟨h_, rfl, rfl⟩ := hR; have ha_ := SrcAt.zero n; refine ⟨rfl, ?_⟩; (conv => whnf); refine mapK_eval (cs' := [.slice (some ⟨0, off, none⟩) n c, ii 0, wv h_]) rfl ?_; conv => whnf)
    | (refine CallOK.useD (c_Dr3_L hz hb hn (by assumption)) [0, 3] rfl rfl rfl ⟨⟨⟨_, rfl, .lit (away_conc (bl_plain _) _).symm (fun _ h_ => by cases h_) (away_ok (bl_plain _) _)⟩⟩, ⟨⟨_, rfl, .lit rfl (fun _ h_ => h_) (fun v hv => okB0_spec (allL_spec rfl v hv))⟩⟩, trivial⟩ (fun v_ mem_ hR => ?_); obtain ⟨a0_, a1_, b0_, b1_, o_, h_, ha_, rfl, rfl⟩ := hR; refine ⟨rfl, t2 (pt a0_ a1_) (pt b0_ b1_), fun _ => rfl, ?_⟩; (conv => whnf); refine mapK_eval (cs' := [.slice (some ⟨0, off, none⟩) n c, ii o_, wv h_]) rfl ?_; conv => whnf)
    | (show OutK _ _ _ _; exact out_forget [] ⟨_, _, _, _, rfl, rfl⟩ rfl (okB2_spec rfl) ⟨⟨⟨_, rfl, .lit (away_conc (bl_plain _) _).symm rfl (away_ok (bl_plain _) _)⟩⟩, trivial⟩ rfl rfl)
    | (refine StoreK.mk rfl ?_; conv => whnf)
    | exact join_same
    | exact (by assumption : (_ : Bool) = (_ : Bool))
    | (refine br_true (by assumption) ?_; conv => whnf)
    | (refine br_false (by assumption) ?_; conv => whnf)
    | (refine br_not ?_; conv => whnf)
    | (refine br_code ?_; conv => whnf)
    | (with_reducible refine br_and ?_; conv => whnf)
    | (with_reducible refine br_or ?_; conv => whnf)
    | (refine br_eq2 ?_; conv => whnf)
    | (refine draw_auto (by decide +kernel) ?_; conv => whnf)
    | (refine draw_asg (by decide +kernel) ?_; conv => whnf)
    | (refine draw_st (by decide +kernel) ?_; conv => whnf)
    | (refine draw_call (by decide +kernel) ?_; conv => whnf)
    | (refine enter_same (loop_n 12 ?_); conv => whnf)
    | (refine next_same ?_; conv => whnf)
    | (refine mapK_row (by assumption) ?_; conv => whnf)
    | (refine mapK_plain (Plain.of rfl) ?_; conv => whnf)
    | (refine mapK_lit ?_; conv => whnf)
    | (refine br_split (fun _ => ?_) (fun _ => ?_) <;> conv => whnf)
    | exact (rfl : (_ : Value) = _)
    | (simp only [*]; exact (rfl : (_ : Value) = _))
    | (simp [*]; done))

theorem c_DrSin_L {zs : List Int} {off n c : Nat} (hz : n ≤ zs.length) (hb : ∀ z ∈ zs, IsByte z) (hn : n ≤ 4096) : CallOK Try.prog n_spec_DrawSailSines [.slice (some ⟨0, off, none⟩) n c] [(away off (bl zs), none)] (fun v m_ => ∃ x y x2 y2, v = t2 (pt x y) (pt x2 y2) ∧ m_ = [(away off (bl zs), none)]) := by
  refine callOK_ofF good fn_spec_DrawSailSines ?_
  conv => whnf
  all_goals (repeat' first
    | (refine draw_pt (.join [1, 0, 2] (.duo 0 (.duo 1 (.solo 2 .done) 2 (.solo 1 .done)) 1 (.solo 0 (.solo 2 .done))) (.solo 3 .done)) (by decide +kernel) ?_; conv => whnf)
    | (refine draw_pt (.take 0 (.trio 1 (.duo 2 (.duo 3 (.duo 4 (.join [6, 5] (.duo 5 (.solo 6 .done) 6 (.solo 5 .done)) (.solo 7 .done)) 5 (.solo 4 (.solo 6 (.solo 7 .done)))) 5 (.solo 3 (.solo 4 (.solo 6 (.solo 7 .done))))) 5 (.solo 2 (.solo 3 (.solo 4 (.solo 6 (.solo 7 .done)))))) 2 (.duo 1 (.duo 3 (.duo 4 (.join [6, 5] (.duo 5 (.solo 6 .done) 6 (.solo 5 .done)) (.solo 7 .done)) 5 (.solo 4 (.solo 6 (.solo 7 .done)))) 5 (.solo 3 (.solo 4 (.solo 6 (.solo 7 .done))))) 5 (.solo 1 (.solo 3 (.solo 4 (.solo 6 (.solo 7 .done)))))) 5 (.join [1, 2] (.duo 1 (.solo 2 .done) 2 (.solo 1 .done)) (.solo 3 (.solo 4 (.solo 6 (.solo 7 .done))))))) (by decide +kernel) ?_; conv => whnf)
    | (refine draw_pt (.take 0 (.duo 1 (.duo 2 (.join [4, 3] (.duo 3 (.solo 4 .done) 4 (.solo 3 .done)) (.solo 5 .done)) 3 (.solo 2 (.solo 4 (.solo 5 .done)))) 3 (.solo 1 (.solo 2 (.solo 4 (.solo 5 .done)))))) (by decide +kernel) ?_; conv => whnf)
    | (refine And.intro ?_ ?_ <;> conv => whnf)
    | (refine CallOK.useR (c_From_L hz hb hn) [0] rfl rfl rfl ⟨⟨⟨_, rfl, .lit (away_conc (bl_plain _) _).symm (fun _ h_ => by cases h_) (away_ok (bl_plain _) _)⟩⟩, trivial⟩ (fun v_ mem_ hR => ?_); obtain ⟨h_, rfl, rfl⟩ := hR; have ha_ := SrcAt.zero n; refine ⟨rfl, ?_⟩; (conv => whnf); refine mapK_eval (cs' := [.slice (some ⟨0, off, none⟩) n c, ii 0, wv h_]) rfl ?_; conv => whnf)
    | (refine CallOK.useD (c_Dr3_L hz hb hn (by assumption)) [0, 3] rfl rfl rfl ⟨⟨⟨_, rfl, .lit (away_conc (bl_plain _) _).symm (fun _ h_ => by cases h_) (away_ok (bl_plain _) _)⟩⟩, ⟨⟨_, rfl, .lit rfl (fun _ h_ => h_) (fun v hv => okB0_spec (allL_spec rfl v hv))⟩⟩, trivial⟩ (fun v_ mem_ hR => ?_); obtain ⟨a0_, a1_, b0_, b1_, o_, h_, ha_, rfl, rfl⟩ := hR; refine ⟨rfl, t2 (pt a0_ a1_) (pt b0_ b1_), fun _ => rfl, ?_⟩; (conv => whnf); refine mapK_eval (cs' := [.slice (some ⟨0, off, none⟩) n c, ii o_, wv h_]) rfl ?_; conv => whnf)
    | (show OutK _ _ _ _; exact out_forget [] ⟨_, _, _, _, rfl, rfl⟩ rfl (okB2_spec rfl) ⟨⟨⟨_, rfl, .lit (away_conc (bl_plain _) _).symm rfl (away_ok (bl_plain _) _)⟩⟩, trivial⟩ rfl rfl)
    | (refine StoreK.mk rfl ?_; conv => whnf)
    | exact join_same
    | exact (by assumption : (_ : Bool) = (_ : Bool))
    | (refine br_true (by assumption) ?_; conv => whnf)
    | (refine br_false (by assumption) ?_; conv => whnf)
    | (refine br_not ?_; conv => whnf)
    | (refine br_code ?_; conv => whnf)
    | (with_reducible refine br_and ?_; conv => whnf)
    | (with_reducible refine br_or ?_; conv => whnf)
    | (refine br_eq2 ?_; conv => whnf)
    | (refine draw_auto (by decide +kernel) ?_; conv => whnf)
    | (refine draw_asg (by decide +kernel) ?_; conv => whnf)
    | (refine draw_st (by decide +kernel) ?_; conv => whnf)
    | (refine draw_call (by decide +kernel) ?_; conv => whnf)
    | (refine enter_same (loop_n 12 ?_); conv => whnf)
    | (refine next_same ?_; conv => whnf)
    | (refine mapK_row (by assumption) ?_; conv => whnf)
    | (refine mapK_plain (Plain.of rfl) ?_; conv => whnf)
    | (refine mapK_lit ?_; conv => whnf)
    | (refine br_split (fun _ => ?_) (fun _ => ?_) <;> conv => whnf)
    | exact (rfl : (_ : Value) = _)
    | (simp only [*]; exact (rfl : (_ : Value) = _))
    | (simp [*]; done))

theorem c_DrAre_L {zs : List Int} {off n c : Nat} (hz : n ≤ zs.length) (hb : ∀ z ∈ zs, IsByte z) (hn : n ≤ 4096) : CallOK Try.prog n_spec_DrawAreaBelow [.slice (some ⟨0, off, none⟩) n c] [(away off (bl zs), none)] (fun v m_ => ∃ x y x2 y2, v = t2 (pt x y) (pt x2 y2) ∧ m_ = [(away off (bl zs), none)]) := by
  refine callOK_ofF good fn_spec_DrawAreaBelow ?_
  conv => whnf
  all_goals (repeat' first
    | (refine draw_pt (.join [1, 0, 2] (.duo 0 (.duo 1 (.solo 2 .done) 2 (.solo 1 .done)) 1 (.solo 0 (.solo 2 .done))) (.solo 3 .done)) (by decide +kernel) ?_; conv => whnf)
    | (refine draw_pt (.take 0 (.trio 1 (.duo 2 (.duo 3 (.duo 4 (.join [6, 5] (.duo 5 (.solo 6 .done) 6 (.solo 5 .done)) (.solo 7 .done)) 5 (.solo 4 (.solo 6 (.solo 7 .done)))) 5 (.solo 3 (.solo 4 (.solo 6 (.solo 7 .done))))) 5 (.solo 2 (.solo 3 (.solo 4 (.solo 6 (.solo 7 .done)))))) 2 (.duo 1 (.duo 3 (.duo 4 (.join [6, 5] (.duo 5 (.solo 6 .done) 6 (.solo 5 .done)) (.solo 7 .done)) 5 (.solo 4 (.solo 6 (.solo 7 .done)))) 5 (.solo 3 (.solo 4 (.solo 6 (.solo 7 .done))))) 5 (.solo 1 (.solo 3 (.solo 4 (.solo 6 (.solo 7 .done)))))) 5 (.join [1, 2] (.duo 1 (.solo 2 .done) 2 (.solo 1 .done)) (.solo 3 (.solo 4 (.solo 6 (.solo 7 .done))))))) (by decide +kernel) ?_; conv => whnf)
    | (refine draw_pt (.take 0 (.duo 1 (.duo 2 (.join [4, 3] (.duo 3 (.solo 4 .done) 4 (.solo 3 .done)) (.solo 5 .done)) 3 (.solo 2 (.solo 4 (.solo 5 .done)))) 3 (.solo 1 (.solo 2 (.solo 4 (.solo 5 .done)))))) (by decide +kernel) ?_; conv => whnf)
    | (refine And.intro ?_ ?_ <;> conv => whnf)
    | (refine CallOK.useR (c_From_L hz hb hn) [0] rfl rfl rfl ⟨⟨⟨_, rfl, .lit (away_conc (bl_plain _) _).symm (fun _ h_ => by cases h_) (away_ok (bl_plain _) _)⟩⟩, trivial⟩ (fun v_ mem_ hR => ?_); obtain ⟨h_, rfl, rfl⟩ := hR; have ha_ := SrcAt.zero n; refine ⟨rfl, ?_⟩; (conv => whnf); refine mapK_eval (cs' := [.slice (some ⟨0, off, none⟩) n c, ii 0, wv h_]) rfl ?_; conv => whnf)
    | (refine CallOK.useD (c_Dr3_L hz hb hn (by assumption)) [0, 3] rfl rfl rfl ⟨⟨⟨_, rfl, .lit (away_conc (bl_plain _) _).symm (fun _ h_ => by cases h_) (away_ok (bl_plain _) _)⟩⟩, ⟨⟨_, rfl, .lit rfl (fun _ h_ => h_) (fun v hv => okB0_spec (allL_spec rfl v hv))⟩⟩, trivial⟩ (fun v_ mem_ hR => ?_); obtain ⟨a0_, a1_, b0_, b1_, o_, h_, ha_, rfl, rfl⟩ := hR; refine ⟨rfl, t2 (pt a0_ a1_) (pt b0_ b1_), fun _ => rfl, ?_⟩; (conv => whnf); refine mapK_eval (cs' := [.slice (some ⟨0, off, none⟩) n c, ii o_, wv h_]) rfl ?_; conv => whnf)
    | (show OutK _ _ _ _; exact out_forget [] ⟨_, _, _, _, rfl, rfl⟩ rfl (okB2_spec rfl) ⟨⟨⟨_, rfl, .lit (away_conc (bl_plain _) _).symm rfl (away_ok (bl_plain _) _)⟩⟩, trivial⟩ rfl rfl)
    | (refine StoreK.mk rfl ?_; conv => whnf)
    | exact join_same
    | exact (by assumption : (_ : Bool) = (_ : Bool))
    | (refine br_true (by assumption) ?_; conv => whnf)
    | (refine br_false (by assumption) ?_; conv => whnf)
    | (refine br_not ?_; conv => whnf)
    | (refine br_code ?_; conv => whnf)
    | (with_reducible refine br_and ?_; conv => whnf)
    | (with_reducible refine br_or ?_; conv => whnf)
    | (refine br_eq2 ?_; conv => whnf)
    | (refine draw_auto (by decide +kernel) ?_; conv => whnf)
    | (refine draw_asg (by decide +kernel) ?_; conv => whnf)
    | (refine draw_st (by decide +kernel) ?_; conv => whnf)
    | (refine draw_call (by decide +kernel) ?_; conv => whnf)
    | (refine enter_same (loop_n 12 ?_); conv => whnf)
    | (refine next_same ?_; conv => whnf)
    | (refine mapK_row (by assumption) ?_; conv => whnf)
    | (refine mapK_plain (Plain.of rfl) ?_; conv => whnf)
    | (refine mapK_lit ?_; conv => whnf)
    | (refine br_split (fun _ => ?_) (fun _ => ?_) <;> conv => whnf)
    | exact (rfl : (_ : Value) = _)
    | (simp only [*]; exact (rfl : (_ : Value) = _))
    | (simp [*]; done))

set_option maxHeartbeats 1000000 in
theorem c_DrawPtB_N  {o h m : Int}  (ha : SrcAt 0 o) : CallOK Try.prog n_spec_l01DrawPoint [.pointer (some ⟨0, 0, none⟩), ii m] [([.slice none 0 0, ii o, wv h], some t_spec_l01Source)] (fun v m_ => ∃ x y o2 h2, (1 ≤ m → m ≤ 1000000 → sm x 1000000 ∧ sm y 1000000) ∧ SrcAt 0 o2 ∧ v = pt x y ∧ m_ = [([.slice none 0 0, ii o2, wv h2], some t_spec_l01Source)]) := by
  refine callOK_ofF good fn_spec_l01DrawPoint ?_
  conv => whnf
  all_goals (repeat' first
    | (refine CallOK.useD (c_Next_N (by assumption)) [0] rfl rfl rfl ⟨⟨⟨_, rfl, .lit rfl (fun _ h_ => h_) (fun v hv => okB0_spec (allL_spec rfl v hv))⟩⟩, trivial⟩ (fun v_ mem_ hR => ?_); obtain ⟨x1_, o_, h_, hx1_, ha_, rfl, rfl⟩ := hR; refine ⟨rfl, ii x1_, fun _ => rfl, ?_⟩; (conv => whnf); refine mapK_eval (cs' := [.slice none 0 0, ii o_, wv h_]) rfl ?_; conv => whnf)
    | (show OutK _ _ _ _; (exact out_forget [] ⟨_, _, _, _, draw_smB (by assumption) (by assumption), ha_, rfl, rfl⟩ rfl (okB2_spec rfl) ⟨⟨⟨_, rfl, .lit rfl rfl (fun v hv => okB0_spec (allL_spec rfl v hv))⟩⟩, trivial⟩ rfl rfl))
    | (refine StoreK.mk rfl ?_; conv => whnf)
    | exact join_same
    | exact (by assumption : (_ : Bool) = (_ : Bool))
    | (refine br_true (by assumption) ?_; conv => whnf)
    | (refine br_false (by assumption) ?_; conv => whnf)
    | (refine br_not ?_; conv => whnf)
    | (refine br_code ?_; conv => whnf)
    | (with_reducible refine br_and ?_; conv => whnf)
    | (with_reducible refine br_or ?_; conv => whnf)
    | (refine br_eq2 ?_; conv => whnf)
    | (refine draw_auto (by decide +kernel) ?_; conv => whnf)
    | (refine draw_asg (by decide +kernel) ?_; conv => whnf)
    | (refine draw_st (by decide +kernel) ?_; conv => whnf)
    | (refine draw_call (by decide +kernel) ?_; conv => whnf)
    | (refine enter_same (loop_n 12 ?_); conv => whnf)
    | (refine next_same ?_; conv => whnf)
    | (refine mapK_row (by assumption) ?_; conv => whnf)
    | (refine mapK_plain (Plain.of rfl) ?_; conv => whnf)
    | (refine mapK_lit ?_; conv => whnf)
    | (refine br_split (fun _ => ?_) (fun _ => ?_) <;> conv => whnf)
    | exact (rfl : (_ : Value) = _)
    | (simp only [*]; exact (rfl : (_ : Value) = _))
    | (simp [*]; done))

set_option maxHeartbeats 1000000 in
theorem c_DrawPrB_N  {o h m : Int}  (ha : SrcAt 0 o) (hm1 : 1 ≤ m) (hm2 : m ≤ 1000000) : CallOK Try.prog n_spec_l01DrawPrimitive [.pointer (some ⟨0, 0, none⟩), ii m] [([.slice none 0 0, ii o, wv h], some t_spec_l01Source)] (fun v m_ => ∃ x y o2 h2, SrcAt 0 o2 ∧ v = pt x y ∧ m_ = [([.slice none 0 0, ii o2, wv h2], some t_spec_l01Source)]) := by
  refine callOK_ofF good fn_spec_l01DrawPrimitive ?_
  conv => whnf
  all_goals (repeat' first
    | (refine part_nzB (hp_ hm1 hm2) (nz_a ?_); assumption)
    | (refine part_nzB (hp_ hm1 hm2) (nz_b ?_); assumption)
    | (refine CallOK.useD (c_DrawPtB_N (by assumption)) [0] rfl rfl rfl ⟨⟨⟨_, rfl, .lit rfl (fun _ h_ => h_) (fun v hv => okB0_spec (allL_spec rfl v hv))⟩⟩, trivial⟩ (fun v_ mem_ hR => ?_); obtain ⟨px_, py_, o_, h_, hp_, ha_, rfl, rfl⟩ := hR; refine ⟨rfl, pt px_ py_, fun _ => rfl, ?_⟩; (conv => whnf); refine mapK_eval (cs' := [.slice none 0 0, ii o_, wv h_]) rfl ?_; conv => whnf)
    | (show OutK _ _ _ _; (exact out_forget [] ⟨_, _, _, _, ha_, rfl, rfl⟩ rfl (okB2_spec rfl) ⟨⟨⟨_, rfl, .lit rfl rfl (fun v hv => okB0_spec (allL_spec rfl v hv))⟩⟩, trivial⟩ rfl rfl))
    | (refine StoreK.mk rfl ?_; conv => whnf)
    | exact join_same
    | exact (by assumption : (_ : Bool) = (_ : Bool))
    | (refine br_true (by assumption) ?_; conv => whnf)
    | (refine br_false (by assumption) ?_; conv => whnf)
    | (refine br_not ?_; conv => whnf)
    | (refine br_code ?_; conv => whnf)
    | (with_reducible refine br_and ?_; conv => whnf)
    | (with_reducible refine br_or ?_; conv => whnf)
    | (refine br_eq2 ?_; conv => whnf)
    | (refine (c_spec_l01Part ?_).call ?_ <;> conv => whnf)
    | (refine (c_spec_l01Part ?_).quiet ?_ <;> conv => whnf)
    | (refine draw_auto (by decide +kernel) ?_; conv => whnf)
    | (refine draw_asg (by decide +kernel) ?_; conv => whnf)
    | (refine draw_st (by decide +kernel) ?_; conv => whnf)
    | (refine draw_call (by decide +kernel) ?_; conv => whnf)
    | (refine enter_same (loop_n 12 ?_); conv => whnf)
    | (refine next_same ?_; conv => whnf)
    | (refine mapK_row (by assumption) ?_; conv => whnf)
    | (refine mapK_plain (Plain.of rfl) ?_; conv => whnf)
    | (refine mapK_lit ?_; conv => whnf)
    | (refine br_split (fun _ => ?_) (fun _ => ?_) <;> conv => whnf)
    | exact (rfl : (_ : Value) = _)
    | (simp only [*]; exact (rfl : (_ : Value) = _))
    | (simp [*]; done))

set_option maxHeartbeats 1000000 in
theorem c_Bad5_N  {o h a b : Int}  (ha : SrcAt 0 o) : CallOK Try.prog n_spec_l01Bad [.pointer (some ⟨0, 0, none⟩), pt a b] [([.slice none 0 0, ii o, wv h], some t_spec_l01Source)] (fun v m_ => ∃ x y o2 h2, SrcAt 0 o2 ∧ v = pt x y ∧ m_ = [([.slice none 0 0, ii o2, wv h2], some t_spec_l01Source)]) := by
  refine callOK_ofF good fn_spec_l01Bad ?_
  conv => whnf
  all_goals (repeat' first
    | (refine CallOK.useD (c_Next_N (m := 40) (by assumption)) [0] rfl rfl rfl ⟨⟨⟨_, rfl, .lit rfl (fun _ h_ => h_) (fun v hv => okB0_spec (allL_spec rfl v hv))⟩⟩, trivial⟩ (fun v_ mem_ hR => ?_); obtain ⟨x40_, o_, h_, hx40_, ha_, rfl, rfl⟩ := hR; refine ⟨rfl, ii x40_, fun _ => rfl, ?_⟩; (conv => whnf); refine mapK_eval (cs' := [.slice none 0 0, ii o_, wv h_]) rfl ?_; conv => whnf)
    | (refine CallOK.useD (c_Next_N (m := 2) (by assumption)) [0] rfl rfl rfl ⟨⟨⟨_, rfl, .lit rfl (fun _ h_ => h_) (fun v hv => okB0_spec (allL_spec rfl v hv))⟩⟩, trivial⟩ (fun v_ mem_ hR => ?_); obtain ⟨x2_, o_, h_, hx2_, ha_, rfl, rfl⟩ := hR; refine ⟨rfl, ii x2_, fun _ => rfl, ?_⟩; (conv => whnf); refine mapK_eval (cs' := [.slice none 0 0, ii o_, wv h_]) rfl ?_; conv => whnf)
    | (refine CallOK.useD (c_Pick_N (xs := [1000001, -1000001, 1099511627776]) (by assumption) (by decide) (by decide)) [0, 3] rfl rfl rfl ⟨⟨⟨_, rfl, .lit rfl (fun _ h_ => h_) (fun v hv => okB0_spec (allL_spec rfl v hv))⟩⟩, ⟨⟨_, rfl, .plain rfl (fun _ h_ => by cases h_) (il_plain _)⟩⟩, trivial⟩ (fun v_ mem_ hR => ?_); obtain ⟨y_, o_, h_, ha_, rfl, rfl⟩ := hR; refine ⟨rfl, ii y_, fun _ => rfl, ?_⟩; (conv => whnf); refine mapK_eval (cs' := [.slice none 0 0, ii o_, wv h_]) rfl ?_; conv => whnf)
    | (show brK (decide (0 ≤ x2_ ∧ x2_ < _)) _ _; rcases two_of hx2_ with rfl | rfl <;> conv => whnf)
    | (show OutK _ _ _ _; (exact out_forget [] ⟨_, _, _, _, ha_, rfl, rfl⟩ rfl (okB2_spec rfl) ⟨⟨⟨_, rfl, .lit rfl rfl (fun v hv => okB0_spec (allL_spec rfl v hv))⟩⟩, trivial⟩ rfl rfl))
    | (refine StoreK.mk rfl ?_; conv => whnf)
    | exact join_same
    | exact (by assumption : (_ : Bool) = (_ : Bool))
    | (refine br_true (by assumption) ?_; conv => whnf)
    | (refine br_false (by assumption) ?_; conv => whnf)
    | (refine br_not ?_; conv => whnf)
    | (refine br_code ?_; conv => whnf)
    | (with_reducible refine br_and ?_; conv => whnf)
    | (with_reducible refine br_or ?_; conv => whnf)
    | (refine br_eq2 ?_; conv => whnf)
    | (refine draw_auto (by decide +kernel) ?_; conv => whnf)
    | (refine draw_asg (by decide +kernel) ?_; conv => whnf)
    | (refine draw_st (by decide +kernel) ?_; conv => whnf)
    | (refine draw_call (by decide +kernel) ?_; conv => whnf)
    | (refine enter_same (loop_n 12 ?_); conv => whnf)
    | (refine next_same ?_; conv => whnf)
    | (refine mapK_row (by assumption) ?_; conv => whnf)
    | (refine mapK_plain (Plain.of rfl) ?_; conv => whnf)
    | (refine mapK_lit ?_; conv => whnf)
    | (refine br_split (fun _ => ?_) (fun _ => ?_) <;> conv => whnf)
    | exact (rfl : (_ : Value) = _)
    | (simp only [*]; exact (rfl : (_ : Value) = _))
    | (simp [*]; done))

set_option maxHeartbeats 2000000 in
theorem c_DrOf3_N  {o h m : Int}  (ha : SrcAt 0 o) (hm1 : 1 ≤ m) (hm2 : m ≤ 1000000) : CallOK Try.prog n_spec_l03DrawOf [.pointer (some ⟨0, 0, none⟩), ii m] [([.slice none 0 0, ii o, wv h], some t_spec_l01Source)] (fun v m_ => ∃ x y x2 y2 o2 h2, SrcAt 0 o2 ∧ v = t2 (pt x y) (pt x2 y2) ∧ m_ = [([.slice none 0 0, ii o2, wv h2], some t_spec_l01Source)]) := by
  refine callOK_ofF good fn_spec_l03DrawOf ?_
  conv => whnf
  all_goals (repeat' first
    | (refine draw_pt (.join [1, 0, 2] (.duo 0 (.duo 1 (.solo 2 .done) 2 (.solo 1 .done)) 1 (.solo 0 (.solo 2 .done))) (.solo 3 .done)) (by decide +kernel) ?_; conv => whnf)
    | (refine draw_pt (.take 0 (.trio 1 (.duo 2 (.duo 3 (.duo 4 (.join [6, 5] (.duo 5 (.solo 6 .done) 6 (.solo 5 .done)) (.solo 7 .done)) 5 (.solo 4 (.solo 6 (.solo 7 .done)))) 5 (.solo 3 (.solo 4 (.solo 6 (.solo 7 .done))))) 5 (.solo 2 (.solo 3 (.solo 4 (.solo 6 (.solo 7 .done)))))) 2 (.duo 1 (.duo 3 (.duo 4 (.join [6, 5] (.duo 5 (.solo 6 .done) 6 (.solo 5 .done)) (.solo 7 .done)) 5 (.solo 4 (.solo 6 (.solo 7 .done)))) 5 (.solo 3 (.solo 4 (.solo 6 (.solo 7 .done))))) 5 (.solo 1 (.solo 3 (.solo 4 (.solo 6 (.solo 7 .done)))))) 5 (.join [1, 2] (.duo 1 (.solo 2 .done) 2 (.solo 1 .done)) (.solo 3 (.solo 4 (.solo 6 (.solo 7 .done))))))) (by decide +kernel) ?_; conv => whnf)
    | (refine draw_pt (.take 0 (.duo 1 (.duo 2 (.join [4, 3] (.duo 3 (.solo 4 .done) 4 (.solo 3 .done)) (.solo 5 .done)) 3 (.solo 2 (.solo 4 (.solo 5 .done)))) 3 (.solo 1 (.solo 2 (.solo 4 (.solo 5 .done)))))) (by decide +kernel) ?_; conv => whnf)
    | (refine And.intro ?_ ?_ <;> conv => whnf)
    | (have g_ := a0_; (refine CallOK.useD (c_DrawPrB_N (by assumption) hm1 hm2) [0] rfl rfl rfl ⟨⟨⟨_, rfl, .lit rfl (fun _ h_ => h_) (fun v hv => okB0_spec (allL_spec rfl v hv))⟩⟩, trivial⟩ (fun v_ mem_ hR => ?_); obtain ⟨b0_, b1_, o_, h_, ha_, rfl, rfl⟩ := hR; refine ⟨rfl, pt b0_ b1_, fun _ => rfl, ?_⟩; (conv => whnf); refine mapK_eval (cs' := [.slice none 0 0, ii o_, wv h_]) rfl ?_; conv => whnf))
    | (refine CallOK.useD (c_DrawPrB_N (by assumption) hm1 hm2) [0] rfl rfl rfl ⟨⟨⟨_, rfl, .lit rfl (fun _ h_ => h_) (fun v hv => okB0_spec (allL_spec rfl v hv))⟩⟩, trivial⟩ (fun v_ mem_ hR => ?_); obtain ⟨a0_, a1_, o_, h_, ha_, rfl, rfl⟩ := hR; refine ⟨rfl, pt a0_ a1_, fun _ => rfl, ?_⟩; (conv => whnf); refine mapK_eval (cs' := [.slice none 0 0, ii o_, wv h_]) rfl ?_; conv => whnf)
    | (refine CallOK.useD (c_Next_N (by assumption)) [0] rfl rfl rfl ⟨⟨⟨_, rfl, .lit rfl (fun _ h_ => h_) (fun v hv => okB0_spec (allL_spec rfl v hv))⟩⟩, trivial⟩ (fun v_ mem_ hR => ?_); obtain ⟨x_, o_, h_, hx_, ha_, rfl, rfl⟩ := hR; refine ⟨rfl, ii x_, fun _ => rfl, ?_⟩; (conv => whnf); refine mapK_eval (cs' := [.slice none 0 0, ii o_, wv h_]) rfl ?_; conv => whnf)
    | (show OutK _ _ _ _; (exact out_forget [] ⟨_, _, _, _, _, _, ha_, rfl, rfl⟩ rfl (okB2_spec rfl) ⟨⟨⟨_, rfl, .lit rfl rfl (fun v hv => okB0_spec (allL_spec rfl v hv))⟩⟩, trivial⟩ rfl rfl))
    | (refine StoreK.mk rfl ?_; conv => whnf)
    | exact join_same
    | exact (by assumption : (_ : Bool) = (_ : Bool))
    | (refine br_true (by assumption) ?_; conv => whnf)
    | (refine br_false (by assumption) ?_; conv => whnf)
    | (refine br_not ?_; conv => whnf)
    | (refine br_code ?_; conv => whnf)
    | (with_reducible refine br_and ?_; conv => whnf)
    | (with_reducible refine br_or ?_; conv => whnf)
    | (refine br_eq2 ?_; conv => whnf)
    | (refine c_spec_l01Det.call ?_; conv => whnf)
    | (refine c_spec_l01Det.quiet ?_; conv => whnf)
    | (refine draw_auto (by decide +kernel) ?_; conv => whnf)
    | (refine draw_asg (by decide +kernel) ?_; conv => whnf)
    | (refine draw_st (by decide +kernel) ?_; conv => whnf)
    | (refine draw_call (by decide +kernel) ?_; conv => whnf)
    | (refine enter_same (loop_n 12 ?_); conv => whnf)
    | (refine next_same ?_; conv => whnf)
    | (refine mapK_row (by assumption) ?_; conv => whnf)
    | (refine mapK_plain (Plain.of rfl) ?_; conv => whnf)
    | (refine mapK_lit ?_; conv => whnf)
    | (refine br_split (fun _ => ?_) (fun _ => ?_) <;> conv => whnf)
    | exact (rfl : (_ : Value) = _)
    | (simp only [*]; exact (rfl : (_ : Value) = _))
    | (simp [*]; done))

set_option maxHeartbeats 2000000 in
theorem c_Dr3_N  {o h : Int}  (ha : SrcAt 0 o) : CallOK Try.prog n_spec_l03Draw [.pointer (some ⟨0, 0, none⟩)] [([.slice none 0 0, ii o, wv h], some t_spec_l01Source)] (fun v m_ => ∃ x y x2 y2 o2 h2, SrcAt 0 o2 ∧ v = t2 (pt x y) (pt x2 y2) ∧ m_ = [([.slice none 0 0, ii o2, wv h2], some t_spec_l01Source)]) := by
  refine callOK_ofF good fn_spec_l03Draw ?_
  conv => whnf
  all_goals (repeat' first
    | (refine draw_pt (.join [1, 0, 2] (.duo 0 (.duo 1 (.solo 2 .done) 2 (.solo 1 .done)) 1 (.solo 0 (.solo 2 .done))) (.solo 3 .done)) (by decide +kernel) ?_; conv => whnf)
    | (refine draw_pt (.take 0 (.trio 1 (.duo 2 (.duo 3 (.duo 4 (.join [6, 5] (.duo 5 (.solo 6 .done) 6 (.solo 5 .done)) (.solo 7 .done)) 5 (.solo 4 (.solo 6 (.solo 7 .done)))) 5 (.solo 3 (.solo 4 (.solo 6 (.solo 7 .done))))) 5 (.solo 2 (.solo 3 (.solo 4 (.solo 6 (.solo 7 .done)))))) 2 (.duo 1 (.duo 3 (.duo 4 (.join [6, 5] (.duo 5 (.solo 6 .done) 6 (.solo 5 .done)) (.solo 7 .done)) 5 (.solo 4 (.solo 6 (.solo 7 .done)))) 5 (.solo 3 (.solo 4 (.solo 6 (.solo 7 .done))))) 5 (.solo 1 (.solo 3 (.solo 4 (.solo 6 (.solo 7 .done)))))) 5 (.join [1, 2] (.duo 1 (.solo 2 .done) 2 (.solo 1 .done)) (.solo 3 (.solo 4 (.solo 6 (.solo 7 .done))))))) (by decide +kernel) ?_; conv => whnf)
    | (refine draw_pt (.take 0 (.duo 1 (.duo 2 (.join [4, 3] (.duo 3 (.solo 4 .done) 4 (.solo 3 .done)) (.solo 5 .done)) 3 (.solo 2 (.solo 4 (.solo 5 .done)))) 3 (.solo 1 (.solo 2 (.solo 4 (.solo 5 .done)))))) (by decide +kernel) ?_; conv => whnf)
    | (refine And.intro ?_ ?_ <;> conv => whnf)
    | (refine CallOK.useD (c_PickM_N (xs := [3, 6, 12, 12, 100, 1000, 1000000]) (by assumption) (by decide) (by decide)) [0, 3] rfl rfl rfl ⟨⟨⟨_, rfl, .lit rfl (fun _ h_ => h_) (fun v hv => okB0_spec (allL_spec rfl v hv))⟩⟩, ⟨⟨_, rfl, .plain rfl (fun _ h_ => by cases h_) (il_plain _)⟩⟩, trivial⟩ (fun v_ mem_ hR => ?_); obtain ⟨y_, o_, h_, hy_, ha_, rfl, rfl⟩ := hR; refine ⟨rfl, ii y_, fun _ => rfl, ?_⟩; (conv => whnf); refine mapK_eval (cs' := [.slice none 0 0, ii o_, wv h_]) rfl ?_; conv => whnf)
    | (have hm_ := mostS hy_; (refine CallOK.useD (c_DrOf3_N (by assumption) hm_.1 hm_.2) [0] rfl rfl rfl ⟨⟨⟨_, rfl, .lit rfl (fun _ h_ => h_) (fun v hv => okB0_spec (allL_spec rfl v hv))⟩⟩, trivial⟩ (fun v_ mem_ hR => ?_); obtain ⟨a0_, a1_, b0_, b1_, o_, h_, ha_, rfl, rfl⟩ := hR; refine ⟨rfl, t2 (pt a0_ a1_) (pt b0_ b1_), fun _ => rfl, ?_⟩; (conv => whnf); refine mapK_eval (cs' := [.slice none 0 0, ii o_, wv h_]) rfl ?_; conv => whnf))
    | (refine CallOK.useD (c_Next_N (m := 30) (by assumption)) [0] rfl rfl rfl ⟨⟨⟨_, rfl, .lit rfl (fun _ h_ => h_) (fun v hv => okB0_spec (allL_spec rfl v hv))⟩⟩, trivial⟩ (fun v_ mem_ hR => ?_); obtain ⟨x30_, o_, h_, hx30_, ha_, rfl, rfl⟩ := hR; refine ⟨rfl, ii x30_, fun _ => rfl, ?_⟩; (conv => whnf); refine mapK_eval (cs' := [.slice none 0 0, ii o_, wv h_]) rfl ?_; conv => whnf)
    | (refine CallOK.useD (c_Bad5_N (by assumption)) [0] rfl rfl rfl ⟨⟨⟨_, rfl, .lit rfl (fun _ h_ => h_) (fun v hv => okB0_spec (allL_spec rfl v hv))⟩⟩, trivial⟩ (fun v_ mem_ hR => ?_); obtain ⟨c0_, c1_, o_, h_, ha_, rfl, rfl⟩ := hR; refine ⟨rfl, pt c0_ c1_, fun _ => rfl, ?_⟩; (conv => whnf); refine mapK_eval (cs' := [.slice none 0 0, ii o_, wv h_]) rfl ?_; conv => whnf)
    | (show OutK _ _ _ _; (exact out_forget [] ⟨_, _, _, _, _, _, ha_, rfl, rfl⟩ rfl (okB2_spec rfl) ⟨⟨⟨_, rfl, .lit rfl rfl (fun v hv => okB0_spec (allL_spec rfl v hv))⟩⟩, trivial⟩ rfl rfl))
    | (refine StoreK.mk rfl ?_; conv => whnf)
    | exact join_same
    | exact (by assumption : (_ : Bool) = (_ : Bool))
    | (refine br_true (by assumption) ?_; conv => whnf)
    | (refine br_false (by assumption) ?_; conv => whnf)
    | (refine br_not ?_; conv => whnf)
    | (refine br_code ?_; conv => whnf)
    | (with_reducible refine br_and ?_; conv => whnf)
    | (with_reducible refine br_or ?_; conv => whnf)
    | (refine br_eq2 ?_; conv => whnf)
    | (refine c_spec_l01Plus.call ?_; conv => whnf)
    | (refine c_spec_l01Plus.quiet ?_; conv => whnf)
    | (refine draw_auto (by decide +kernel) ?_; conv => whnf)
    | (refine draw_asg (by decide +kernel) ?_; conv => whnf)
    | (refine draw_st (by decide +kernel) ?_; conv => whnf)
    | (refine draw_call (by decide +kernel) ?_; conv => whnf)
    | (refine enter_same (loop_n 12 ?_); conv => whnf)
    | (refine next_same ?_; conv => whnf)
    | (refine mapK_row (by assumption) ?_; conv => whnf)
    | (refine mapK_plain (Plain.of rfl) ?_; conv => whnf)
    | (refine mapK_lit ?_; conv => whnf)
    | (refine br_split (fun _ => ?_) (fun _ => ?_) <;> conv => whnf)
    | exact (rfl : (_ : Value) = _)
    | (simp only [*]; exact (rfl : (_ : Value) = _))
    | (simp [*]; done))

theorem c_DrSeq_N   : CallOK Try.prog n_spec_DrawSequenceOf [.slice none 0 0] [] (fun v m_ => ∃ x y x2 y2, v = t2 (pt x y) (pt x2 y2) ∧ m_ = []) := by
  refine callOK_ofF good fn_spec_DrawSequenceOf ?_
  conv => whnf
  all_goals (repeat' first
    | (refine draw_pt (.join [1, 0, 2] (.duo 0 (.duo 1 (.solo 2 .done) 2 (.solo 1 .done)) 1 (.solo 0 (.solo 2 .done))) (.solo 3 .done)) (by decide +kernel) ?_; conv => whnf)
    | (refine draw_pt (.take 0 (.trio 1 (.duo 2 (.duo 3 (.duo 4 (.join [6, 5] (.duo 5 (.solo 6 .done) 6 (.solo 5 .done)) (.solo 7 .done)) 5 (.solo 4 (.solo 6 (.solo 7 .done)))) 5 (.solo 3 (.solo 4 (.solo 6 (.solo 7 .done))))) 5 (.solo 2 (.solo 3 (.solo 4 (.solo 6 (.solo 7 .done)))))) 2 (.duo 1 (.duo 3 (.duo 4 (.join [6, 5] (.duo 5 (.solo 6 .done) 6 (.solo 5 .done)) (.solo 7 .done)) 5 (.solo 4 (.solo 6 (.solo 7 .done)))) 5 (.solo 3 (.solo 4 (.solo 6 (.solo 7 .done))))) 5 (.solo 1 (.solo 3 (.solo 4 (.solo 6 (.solo 7 .done)))))) 5 (.join [1, 2] (.duo 1 (.solo 2 .done) 2 (.solo 1 .done)) (.solo 3 (.solo 4 (.solo 6 (.solo 7 .done))))))) (by decide +kernel) ?_; conv => whnf)
    | (refine draw_pt (.take 0 (.duo 1 (.duo 2 (.join [4, 3] (.duo 3 (.solo 4 .done) 4 (.solo 3 .done)) (.solo 5 .done)) 3 (.solo 2 (.solo 4 (.solo 5 .done)))) 3 (.solo 1 (.solo 2 (.solo 4 (.solo 5 .done)))))) (by decide +kernel) ?_; conv => whnf)
    | (refine And.intro ?_ ?_ <;> conv => whnf)
    | (refine CallOK.useR (c_From_N) [] rfl rfl rfl trivial (fun v_ mem_ hR => ?_); obtain ⟨h_, rfl, rfl⟩ := hR; have ha_ := SrcAt.zero 0; refine ⟨rfl, ?_⟩; (conv => whnf); refine mapK_eval (cs' := [.slice none 0 0, ii 0, wv h_]) rfl ?_; conv => whnf)
    | (refine CallOK.useD (c_Dr3_N (by assumption)) [2] rfl rfl rfl ⟨⟨⟨_, rfl, .lit rfl (fun _ h_ => h_) (fun v hv => okB0_spec (allL_spec rfl v hv))⟩⟩, trivial⟩ (fun v_ mem_ hR => ?_); obtain ⟨a0_, a1_, b0_, b1_, o_, h_, ha_, rfl, rfl⟩ := hR; refine ⟨rfl, t2 (pt a0_ a1_) (pt b0_ b1_), fun _ => rfl, ?_⟩; (conv => whnf); refine mapK_eval (cs' := [.slice none 0 0, ii o_, wv h_]) rfl ?_; conv => whnf)
    | (show OutK _ _ _ _; exact out_forget [] ⟨_, _, _, _, rfl, rfl⟩ rfl (okB2_spec rfl) trivial rfl rfl)
    | (refine StoreK.mk rfl ?_; conv => whnf)
    | exact join_same
    | exact (by assumption : (_ : Bool) = (_ : Bool))
    | (refine br_true (by assumption) ?_; conv => whnf)
    | (refine br_false (by assumption) ?_; conv => whnf)
    | (refine br_not ?_; conv => whnf)
    | (refine br_code ?_; conv => whnf)
    | (with_reducible refine br_and ?_; conv => whnf)
    | (with_reducible refine br_or ?_; conv => whnf)
    | (refine br_eq2 ?_; conv => whnf)
    | (refine draw_auto (by decide +kernel) ?_; conv => whnf)
    | (refine draw_asg (by decide +kernel) ?_; conv => whnf)
    | (refine draw_st (by decide +kernel) ?_; conv => whnf)
    | (refine draw_call (by decide +kernel) ?_; conv => whnf)
    | (refine enter_same (loop_n 12 ?_); conv => whnf)
    | (refine next_same ?_; conv => whnf)
    | (refine mapK_row (by assumption) ?_; conv => whnf)
    | (refine mapK_plain (Plain.of rfl) ?_; conv => whnf)
    | (refine mapK_lit ?_; conv => whnf)
    | (refine br_split (fun _ => ?_) (fun _ => ?_) <;> conv => whnf)
    | exact (rfl : (_ : Value) = _)
    | (simp only [*]; exact (rfl : (_ : Value) = _))
    | (simp [*]; done))

theorem c_DrLen_N   : CallOK Try.prog n_spec_DrawSailLengths [.slice none 0 0] [] (fun v m_ => ∃ x y x2 y2, v = t2 (pt x y) (pt x2 y2) ∧ m_ = []) := by
  refine callOK_ofF good fn_spec_DrawSailLengths ?_
  conv => whnf
  all_goals (repeat' first
    | (refine draw_pt (.join [1, 0, 2] (.duo 0 (.duo 1 (.solo 2 .done) 2 (.solo 1 .done)) 1 (.solo 0 (.solo 2 .done))) (.solo 3 .done)) (by decide +kernel) ?_; conv => whnf)
    | (refine draw_pt (.take 0 (.trio 1 (.duo 2 (.duo 3 (.duo 4 (.join [6, 5] (.duo 5 (.solo 6 .done) 6 (.solo 5 .done)) (.solo 7 .done)) 5 (.solo 4 (.solo 6 (.solo 7 .done)))) 5 (.solo 3 (.solo 4 (.solo 6 (.solo 7 .done))))) 5 (.solo 2 (.solo 3 (.solo 4 (.solo 6 (.solo 7 .done)))))) 2 (.duo 1 (.duo 3 (.duo 4 (.join [6, 5] (.duo 5 (.solo 6 .done) 6 (.solo 5 .done)) (.solo 7 .done)) 5 (.solo 4 (.solo 6 (.solo 7 .done)))) 5 (.solo 3 (.solo 4 (.solo 6 (.solo 7 .done))))) 5 (.solo 1 (.solo 3 (.solo 4 (.solo 6 (.solo 7 .done)))))) 5 (.join [1, 2] (.duo 1 (.solo 2 .done) 2 (.solo 1 .done)) (.solo 3 (.solo 4 (.solo 6 (.solo 7 .done))))))) (by decide +kernel) ?_; conv => whnf)
    | (refine draw_pt (.take 0 (.duo 1 (.duo 2 (.join [4, 3] (.duo 3 (.solo 4 .done) 4 (.solo 3 .done)) (.solo 5 .done)) 3 (.solo 2 (.solo 4 (.solo 5 .done)))) 3 (.solo 1 (.solo 2 (.solo 4 (.solo 5 .done)))))) (by decide +kernel) ?_; conv => whnf)
    | (refine And.intro ?_ ?_ <;> conv => whnf)
    | (refine CallOK.useR (c_From_N) [] rfl rfl rfl trivial (fun v_ mem_ hR => ?_); obtain ⟨h_, rfl, rfl⟩ := hR; have ha_ := SrcAt.zero 0; refine ⟨rfl, ?_⟩; (conv => whnf); refine mapK_eval (cs' := [.slice none 0 0, ii 0, wv h_]) rfl ?_; conv => whnf)
    | (refine CallOK.useD (c_Dr3_N (by assumption)) [2] rfl rfl rfl ⟨⟨⟨_, rfl, .lit rfl (fun _ h_ => h_) (fun v hv => okB0_spec (allL_spec rfl v hv))⟩⟩, trivial⟩ (fun v_ mem_ hR => ?_); obtain ⟨a0_, a1_, b0_, b1_, o_, h_, ha_, rfl, rfl⟩ := hR; refine ⟨rfl, t2 (pt a0_ a1_) (pt b0_ b1_), fun _ => rfl, ?_⟩; (conv => whnf); refine mapK_eval (cs' := [.slice none 0 0, ii o_, wv h_]) rfl ?_; conv => whnf)
    | (show OutK _ _ _ _; exact out_forget [] ⟨_, _, _, _, rfl, rfl⟩ rfl (okB2_spec rfl) trivial rfl rfl)
    | (refine StoreK.mk rfl ?_; conv => whnf)
    | exact join_same
    | exact (by assumption : (_ : Bool) = (_ : Bool))
    | (refine br_true (by assumption) ?_; conv => whnf)
    | (refine br_false (by assumption) ?_; conv => whnf)
    | (refine br_not ?_; conv => whnf)
    | (refine br_code ?_; conv => whnf)
    | (with_reducible refine br_and ?_; conv => whnf)
    | (with_reducible refine br_or ?_; conv => whnf)
    | (refine br_eq2 ?_; conv => whnf)
    | (refine draw_auto (by decide +kernel) ?_; conv => whnf)
    | (refine draw_asg (by decide +kernel) ?_; conv => whnf)
    | (refine draw_st (by decide +kernel) ?_; conv => whnf)
    | (refine draw_call (by decide +kernel) ?_; conv => whnf)
    | (refine enter_same (loop_n 12 ?_); conv => whnf)
    | (refine next_same ?_; conv => whnf)
    | (refine mapK_row (by assumption) ?_; conv => whnf)
    | (refine mapK_plain (Plain.of rfl) ?_; conv => whnf)
    | (refine mapK_lit ?_; conv => whnf)
    | (refine br_split (fun _ => ?_) (fun _ => ?_) <;> conv => whnf)
    | exact (rfl : (_ : Value) = _)
    | (simp only [*]; exact (rfl : (_ : Value) = _))
    | (simp [*]; done))

theorem c_DrSin_N   : CallOK Try.prog n_spec_DrawSailSines [.slice none 0 0] [] (fun v m_ => ∃ x y x2 y2, v = t2 (pt x y) (pt x2 y2) ∧ m_ = []) := by
  refine callOK_ofF good fn_spec_DrawSailSines ?_
  conv => whnf
  all_goals (repeat' first
    | (refine draw_pt (.join [1, 0, 2] (.duo 0 (.duo 1 (.solo 2 .done) 2 (.solo 1 .done)) 1 (.solo 0 (.solo 2 .done))) (.solo 3 .done)) (by decide +kernel) ?_; conv => whnf)
    | (refine draw_pt (.take 0 (.trio 1 (.duo 2 (.duo 3 (.duo 4 (.join [6, 5] (.duo 5 (.solo 6 .done) 6 (.solo 5 .done)) (.solo 7 .done)) 5 (.solo 4 (.solo 6 (.solo 7 .done)))) 5 (.solo 3 (.solo 4 (.solo 6 (.solo 7 .done))))) 5 (.solo 2 (.solo 3 (.solo 4 (.solo 6 (.solo 7 .done)))))) 2 (.duo 1 (.duo 3 (.duo 4 (.join [6, 5] (.duo 5 (.solo 6 .done) 6 (.solo 5 .done)) (.solo 7 .done)) 5 (.solo 4 (.solo 6 (.solo 7 .done)))) 5 (.solo 3 (.solo 4 (.solo 6 (.solo 7 .done))))) 5 (.solo 1 (.solo 3 (.solo 4 (.solo 6 (.solo 7 .done)))))) 5 (.join [1, 2] (.duo 1 (.solo 2 .done) 2 (.solo 1 .done)) (.solo 3 (.solo 4 (.solo 6 (.solo 7 .done))))))) (by decide +kernel) ?_; conv => whnf)
    | (refine draw_pt (.take 0 (.duo 1 (.duo 2 (.join [4, 3] (.duo 3 (.solo 4 .done) 4 (.solo 3 .done)) (.solo 5 .done)) 3 (.solo 2 (.solo 4 (.solo 5 .done)))) 3 (.solo 1 (.solo 2 (.solo 4 (.solo 5 .done)))))) (by decide +kernel) ?_; conv => whnf)
    | (refine And.intro ?_ ?_ <;> conv => whnf)
    | (refine CallOK.useR (c_From_N) [] rfl rfl rfl trivial (fun v_ mem_ hR => ?_); obtain ⟨h_, rfl, rfl⟩ := hR; have ha_ := SrcAt.zero 0; refine ⟨rfl, ?_⟩; (conv => whnf); refine mapK_eval (cs' := [.slice none 0 0, ii 0, wv h_]) rfl ?_; conv => whnf)
    | (refine CallOK.useD (c_Dr3_N (by assumption)) [2] rfl rfl rfl ⟨⟨⟨_, rfl, .lit rfl (fun _ h_ => h_) (fun v hv => okB0_spec (allL_spec rfl v hv))⟩⟩, trivial⟩ (fun v_ mem_ hR => ?_); obtain ⟨a0_, a1_, b0_, b1_, o_, h_, ha_, rfl, rfl⟩ := hR; refine ⟨rfl, t2 (pt a0_ a1_) (pt b0_ b1_), fun _ => rfl, ?_⟩; (conv => whnf); refine mapK_eval (cs' := [.slice none 0 0, ii o_, wv h_]) rfl ?_; conv => whnf)
    | (show OutK _ _ _ _; exact out_forget [] ⟨_, _, _, _, rfl, rfl⟩ rfl (okB2_spec rfl) trivial rfl rfl)
    | (refine StoreK.mk rfl ?_; conv => whnf)
    | exact join_same
    | exact (by assumption : (_ : Bool) = (_ : Bool))
    | (refine br_true (by assumption) ?_; conv => whnf)
    | (refine br_false (by assumption) ?_; conv => whnf)
    | (refine br_not ?_; conv => whnf)
    | (refine br_code ?_; conv => whnf)
    | (with_reducible refine br_and ?_; conv => whnf)
    | (with_reducible refine br_or ?_; conv => whnf)
    | (refine br_eq2 ?_; conv => whnf)
    | (refine draw_auto (by decide +kernel) ?_; conv => whnf)
    | (refine draw_asg (by decide +kernel) ?_; conv => whnf)
    | (refine draw_st (by decide +kernel) ?_; conv => whnf)
    | (refine draw_call (by decide +kernel) ?_; conv => whnf)
    | (refine enter_same (loop_n 12 ?_); conv => whnf)
    | (refine next_same ?_; conv => whnf)
    | (refine mapK_row (by assumption) ?_; conv => whnf)
    | (refine mapK_plain (Plain.of rfl) ?_; conv => whnf)
    | (refine mapK_lit ?_; conv => whnf)
    | (refine br_split (fun _ => ?_) (fun _ => ?_) <;> conv => whnf)
    | exact (rfl : (_ : Value) = _)
    | (simp only [*]; exact (rfl : (_ : Value) = _))
    | (simp [*]; done))

theorem c_DrAre_N   : CallOK Try.prog n_spec_DrawAreaBelow [.slice none 0 0] [] (fun v m_ => ∃ x y x2 y2, v = t2 (pt x y) (pt x2 y2) ∧ m_ = []) := by
  refine callOK_ofF good fn_spec_DrawAreaBelow ?_
  conv => whnf
  all_goals (repeat' first
    | (refine draw_pt (.join [1, 0, 2] (.duo 0 (.duo 1 (.solo 2 .done) 2 (.solo 1 .done)) 1 (.solo 0 (.solo 2 .done))) (.solo 3 .done)) (by decide +kernel) ?_; conv => whnf)
    | (refine draw_pt (.take 0 (.trio 1 (.duo 2 (.duo 3 (.duo 4 (.join [6, 5] (.duo 5 (.solo 6 .done) 6 (.solo 5 .done)) (.solo 7 .done)) 5 (.solo 4 (.solo 6 (.solo 7 .done)))) 5 (.solo 3 (.solo 4 (.solo 6 (.solo 7 .done))))) 5 (.solo 2 (.solo 3 (.solo 4 (.solo 6 (.solo 7 .done)))))) 2 (.duo 1 (.duo 3 (.duo 4 (.join [6, 5] (.duo 5 (.solo 6 .done) 6 (.solo 5 .done)) (.solo 7 .done)) 5 (.solo 4 (.solo 6 (.solo 7 .done)))) 5 (.solo 3 (.solo 4 (.solo 6 (.solo 7 .done))))) 5 (.solo 1 (.solo 3 (.solo 4 (.solo 6 (.solo 7 .done)))))) 5 (.join [1, 2] (.duo 1 (.solo 2 .done) 2 (.solo 1 .done)) (.solo 3 (.solo 4 (.solo 6 (.solo 7 .done))))))) (by decide +kernel) ?_; conv => whnf)
    | (refine draw_pt (.take 0 (.duo 1 (.duo 2 (.join [4, 3] (.duo 3 (.solo 4 .done) 4 (.solo 3 .done)) (.solo 5 .done)) 3 (.solo 2 (.solo 4 (.solo 5 .done)))) 3 (.solo 1 (.solo 2 (.solo 4 (.solo 5 .done)))))) (by decide +kernel) ?_; conv => whnf)
    | (refine And.intro ?_ ?_ <;> conv => whnf)
    | (refine CallOK.useR (c_From_N) [] rfl rfl rfl trivial (fun v_ mem_ hR => ?_); obtain ⟨h_, rfl, rfl⟩ := hR; have ha_ := SrcAt.zero 0; refine ⟨rfl, ?_⟩; (conv => whnf); refine mapK_eval (cs' := [.slice none 0 0, ii 0, wv h_]) rfl ?_; conv => whnf)
    | (refine CallOK.useD (c_Dr3_N (by assumption)) [2] rfl rfl rfl ⟨⟨⟨_, rfl, .lit rfl (fun _ h_ => h_) (fun v hv => okB0_spec (allL_spec rfl v hv))⟩⟩, trivial⟩ (fun v_ mem_ hR => ?_); obtain ⟨a0_, a1_, b0_, b1_, o_, h_, ha_, rfl, rfl⟩ := hR; refine ⟨rfl, t2 (pt a0_ a1_) (pt b0_ b1_), fun _ => rfl, ?_⟩; (conv => whnf); refine mapK_eval (cs' := [.slice none 0 0, ii o_, wv h_]) rfl ?_; conv => whnf)
    | (show OutK _ _ _ _; exact out_forget [] ⟨_, _, _, _, rfl, rfl⟩ rfl (okB2_spec rfl) trivial rfl rfl)
    | (refine StoreK.mk rfl ?_; conv => whnf)
    | exact join_same
    | exact (by assumption : (_ : Bool) = (_ : Bool))
    | (refine br_true (by assumption) ?_; conv => whnf)
    | (refine br_false (by assumption) ?_; conv => whnf)
    | (refine br_not ?_; conv => whnf)
    | (refine br_code ?_; conv => whnf)
    | (with_reducible refine br_and ?_; conv => whnf)
    | (with_reducible refine br_or ?_; conv => whnf)
    | (refine br_eq2 ?_; conv => whnf)
    | (refine draw_auto (by decide +kernel) ?_; conv => whnf)
    | (refine draw_asg (by decide +kernel) ?_; conv => whnf)
    | (refine draw_st (by decide +kernel) ?_; conv => whnf)
    | (refine draw_call (by decide +kernel) ?_; conv => whnf)
    | (refine enter_same (loop_n 12 ?_); conv => whnf)
    | (refine next_same ?_; conv => whnf)
    | (refine mapK_row (by assumption) ?_; conv => whnf)
    | (refine mapK_plain (Plain.of rfl) ?_; conv => whnf)
    | (refine mapK_lit ?_; conv => whnf)
    | (refine br_split (fun _ => ?_) (fun _ => ?_) <;> conv => whnf)
    | exact (rfl : (_ : Value) = _)
    | (simp only [*]; exact (rfl : (_ : Value) = _))
    | (simp [*]; done))

end Go.Proofs.Ytjakdmfodnpkkaa
