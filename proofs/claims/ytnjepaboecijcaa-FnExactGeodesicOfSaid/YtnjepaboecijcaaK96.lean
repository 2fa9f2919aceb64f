/-
  Contracts of functions of the program (printed by a program of this work; Lean checks each).
  Conditions: as each contract states.
-/
import Derived.Test.YtnjepaboecijcaaK94
import Derived.Test.YtnjepaboecijcaaK95
namespace Go.Proofs.Ytnjepaboecijcaa
open Go.Ev Go.RowKit
set_option maxRecDepth 100000
set_option linter.unusedVariables false
set_option linter.unusedSimpArgs false

attribute [local irreducible] isPtF isFracF plusF detF turnX turnY mateX mateY movX movY levL gnx chn geoL

theorem c_spec_GeodesicOf_same {a b : Int} (hp : isPtF a b = true) (hf : isFracF a b = true) : CallOK Try.prog n_spec_GeodesicOf [pt a b, pt a b] [] (fun v m_ => ∃ n k sp, Row (pl (geoL a b a b)) sp n k 2 ∧ n ≤ 1000001 ∧ v = t2 (.slice (some ⟨0, 0, none⟩) n k) (ii 0) ∧ m_ = [(pl (geoL a b a b) ++ sp, some t_impl_Point)]) := by
  have s1_ := mov_self hf; have hM_ : isPtF (movX a b a b) (movY a b a b) = true := (by rw [s1_.1, s1_.2]; exact isPtF_iff.2 (by omega)); have hp2_ : (isPtF a b && isPtF a b) = true := (by rw [hp]; rfl); have hf2_ : (isFracF a b && isFracF a b) = true := (by rw [hf]; rfl); have e_ := geo_self hf; rw [e_]; refine callOK_ofF good fn_spec_GeodesicOf ?_
  conv => whnf
  all_goals (repeat' first
    | (refine br_fault ?_; conv => whnf)
    | exact hp2_
    | exact hf2_
    | (refine br_true (decide_eq_true (rfl : (a : Int) = a)) ?_; conv => whnf)
    | (refine br_true (decide_eq_true (rfl : (b : Int) = b)) ?_; conv => whnf)
    | exact out_forget [3] ⟨1, 1, [], Row.lit rfl rfl, by omega, rfl, rfl⟩ rfl (okB2_spec rfl) ⟨⟨⟨_, rfl, .plain rfl rfl (by first | exact Plain.of rfl | exact Row.all (by assumption))⟩⟩, trivial⟩ rfl rfl
    | (refine StoreK.mk rfl ?_; conv => whnf)
    | exact join_same
    | exact (by assumption : (_ : Bool) = (_ : Bool))
    | (refine br_true (by assumption) ?_; conv => whnf)
    | (refine br_false (by assumption) ?_; conv => whnf)
    | (refine br_not ?_; conv => whnf)
    | (refine br_code ?_; conv => whnf)
    | (with_reducible refine br_and ?_; conv => whnf)
    | (with_reducible refine br_or ?_; conv => whnf)
    | (refine br_eq2 ?_; conv => whnf)
    | (refine c_l05Code_1.call1 rfl rfl ⟨_, rfl⟩ ?_; conv => whnf)
    | (refine c_l05Code_1.quiet1 rfl rfl ⟨_, rfl⟩ ?_; conv => whnf)
    | (refine c_l05Code_2.call1 rfl rfl ⟨_, rfl⟩ ?_; conv => whnf)
    | (refine c_l05Code_2.quiet1 rfl rfl ⟨_, rfl⟩ ?_; conv => whnf)
    | (refine c_l05Code_3.call1 rfl rfl ⟨_, rfl⟩ ?_; conv => whnf)
    | (refine c_l05Code_3.quiet1 rfl rfl ⟨_, rfl⟩ ?_; conv => whnf)
    | (refine (c_spec_l05Moved ?_).call ?_ <;> conv => whnf)
    | (refine (c_spec_l05Moved ?_).quiet ?_ <;> conv => whnf)
    | (refine (c_spec_l05Frame ?_).call ?_ <;> conv => whnf)
    | (refine (c_spec_l05Frame ?_).quiet ?_ <;> conv => whnf)
    | (refine c_spec_l01Minus.call ?_; conv => whnf)
    | (refine c_spec_l01Minus.quiet ?_; conv => whnf)
    | (refine (c_spec_l05Parents ?_).call ?_ <;> conv => whnf)
    | (refine (c_spec_l05Parents ?_).quiet ?_ <;> conv => whnf)
    | (refine (c_spec_l05Level ?_ ?_).call ?_ <;> conv => whnf)
    | (refine (c_spec_l05Level ?_ ?_).quiet ?_ <;> conv => whnf)
    | (refine c_spec_l01Apply.call ?_; conv => whnf)
    | (refine c_spec_l01Apply.quiet ?_; conv => whnf)
    | (refine c_spec_l05Turn.call ?_; conv => whnf)
    | (refine c_spec_l05Turn.quiet ?_; conv => whnf)
    | (refine draw_auto (by decide +kernel) ?_; conv => whnf)
    | (refine draw_asg (by decide +kernel) ?_; conv => whnf)
    | (refine draw_st (by decide +kernel) ?_; conv => whnf)
    | (refine draw_call (by decide +kernel) ?_; conv => whnf)
    | (refine enter_same (loop_n 12 ?_); conv => whnf)
    | (refine next_same ?_; conv => whnf)
    | (refine mapK_row (by assumption) ?_; conv => whnf)
    | (refine mapK_plain (Plain.of rfl) ?_; conv => whnf)
    | (refine mapK_lit ?_; conv => whnf)
    | (refine br_split (fun _ => ?_) (fun _ => ?_) <;> conv => whnf)
    | exact (rfl : (_ : Value) = _)
    | (simp only [*]; exact (rfl : (_ : Value) = _))
    | (simp [*]; done))

theorem c_impl_GeodesicOf_same {a b : Int} (hp : isPtF a b = true) (hf : isFracF a b = true) : CallOK Try.prog n_impl_GeodesicOf [pt a b, pt a b] [] (fun v m_ => ∃ n k sp, Row (pl (geoL a b a b)) sp n k 2 ∧ n ≤ 1000001 ∧ v = t2 (.slice (some ⟨0, 0, none⟩) n k) (ii 0) ∧ m_ = [(pl (geoL a b a b) ++ sp, some t_impl_Point)]) := by
  have s1_ := mov_self hf; have hM_ : isPtF (movX a b a b) (movY a b a b) = true := (by rw [s1_.1, s1_.2]; exact isPtF_iff.2 (by omega)); have hp2_ : (isPtF a b && isPtF a b) = true := (by rw [hp]; rfl); have hf2_ : (isFracF a b && isFracF a b) = true := (by rw [hf]; rfl); have e_ := geo_self hf; exact c_impl_GeodesicOf_ok hp2_ hf2_ hM_

theorem c_spec_GeodesicOf_no3 {a b c d : Int} (hp : (isPtF a b && isPtF c d) = true) (hf : (isFracF a b && isFracF c d) = true) (hn : ¬ (a = c ∧ b = d)) (hM : isPtF (movX a b c d) (movY a b c d) = false) : CallOK Try.prog n_spec_GeodesicOf [pt a b, pt c d] [] (fun v m_ => v = t2 (.slice none 0 0) (ii 3) ∧ m_ = []) := by
  have hq_ : isPtF a b = true ∧ isPtF c d = true := (by simpa using hp); have hg_ : isFracF a b = true ∧ isFracF c d = true := (by simpa using hf); have p1_ := hq_.1; have p2_ := hq_.2; have mv_ : MovOk a b c d := ⟨hg_.1, hg_.2⟩; refine callOK_ofF good fn_spec_GeodesicOf ?_
  conv => whnf
  all_goals (repeat' first
    | (refine br_fault ?_; conv => whnf)
    | exact hM
    | exact p1_
    | exact absurd (And.intro (eq_of_dec (show decide (a = c) = true by assumption)) (eq_of_dec (show decide (b = d) = true by assumption))) hn
    | exact out_forget [] ⟨rfl, rfl⟩ rfl (okB2_spec rfl) trivial rfl rfl
    | (rw [hp, hf]; exact out_forget [] ⟨rfl, rfl⟩ rfl (okB2_spec rfl) trivial rfl rfl)
    | (rw [hp]; exact out_forget [] ⟨rfl, rfl⟩ rfl (okB2_spec rfl) trivial rfl rfl)
    | (refine StoreK.mk rfl ?_; conv => whnf)
    | exact join_same
    | exact (by assumption : (_ : Bool) = (_ : Bool))
    | (refine br_true (by assumption) ?_; conv => whnf)
    | (refine br_false (by assumption) ?_; conv => whnf)
    | (refine br_not ?_; conv => whnf)
    | (refine br_code ?_; conv => whnf)
    | (with_reducible refine br_and ?_; conv => whnf)
    | (with_reducible refine br_or ?_; conv => whnf)
    | (refine br_eq2 ?_; conv => whnf)
    | (refine c_l05Code_1.call1 rfl rfl ⟨_, rfl⟩ ?_; conv => whnf)
    | (refine c_l05Code_1.quiet1 rfl rfl ⟨_, rfl⟩ ?_; conv => whnf)
    | (refine c_l05Code_2.call1 rfl rfl ⟨_, rfl⟩ ?_; conv => whnf)
    | (refine c_l05Code_2.quiet1 rfl rfl ⟨_, rfl⟩ ?_; conv => whnf)
    | (refine c_l05Code_3.call1 rfl rfl ⟨_, rfl⟩ ?_; conv => whnf)
    | (refine c_l05Code_3.quiet1 rfl rfl ⟨_, rfl⟩ ?_; conv => whnf)
    | (refine (c_spec_l05Moved ?_).call ?_ <;> conv => whnf)
    | (refine (c_spec_l05Moved ?_).quiet ?_ <;> conv => whnf)
    | (refine (c_spec_l05Frame ?_).call ?_ <;> conv => whnf)
    | (refine (c_spec_l05Frame ?_).quiet ?_ <;> conv => whnf)
    | (refine c_spec_l01Minus.call ?_; conv => whnf)
    | (refine c_spec_l01Minus.quiet ?_; conv => whnf)
    | (refine (c_spec_l05Parents ?_).call ?_ <;> conv => whnf)
    | (refine (c_spec_l05Parents ?_).quiet ?_ <;> conv => whnf)
    | (refine (c_spec_l05Level ?_ ?_).call ?_ <;> conv => whnf)
    | (refine (c_spec_l05Level ?_ ?_).quiet ?_ <;> conv => whnf)
    | (refine c_spec_l01Apply.call ?_; conv => whnf)
    | (refine c_spec_l01Apply.quiet ?_; conv => whnf)
    | (refine c_spec_l05Turn.call ?_; conv => whnf)
    | (refine c_spec_l05Turn.quiet ?_; conv => whnf)
    | (refine draw_auto (by decide +kernel) ?_; conv => whnf)
    | (refine draw_asg (by decide +kernel) ?_; conv => whnf)
    | (refine draw_st (by decide +kernel) ?_; conv => whnf)
    | (refine draw_call (by decide +kernel) ?_; conv => whnf)
    | (refine enter_same (loop_n 12 ?_); conv => whnf)
    | (refine next_same ?_; conv => whnf)
    | (refine mapK_row (by assumption) ?_; conv => whnf)
    | (refine mapK_plain (Plain.of rfl) ?_; conv => whnf)
    | (refine mapK_lit ?_; conv => whnf)
    | (refine br_split (fun _ => ?_) (fun _ => ?_) <;> conv => whnf)
    | exact (rfl : (_ : Value) = _)
    | (simp only [*]; exact (rfl : (_ : Value) = _))
    | (simp [*]; done))

theorem c_spec_GeodesicOf_no2 {a b c d : Int} (hp : (isPtF a b && isPtF c d) = true) (hf : (isFracF a b && isFracF c d) = false) : CallOK Try.prog n_spec_GeodesicOf [pt a b, pt c d] [] (fun v m_ => v = t2 (.slice none 0 0) (ii 2) ∧ m_ = []) := by
  refine callOK_ofF good fn_spec_GeodesicOf ?_
  conv => whnf
  all_goals (repeat' first
    | (refine br_fault ?_; conv => whnf)
    | exact hM
    | exact p1_
    | exact absurd (And.intro (eq_of_dec (show decide (a = c) = true by assumption)) (eq_of_dec (show decide (b = d) = true by assumption))) hn
    | exact out_forget [] ⟨rfl, rfl⟩ rfl (okB2_spec rfl) trivial rfl rfl
    | (rw [hp, hf]; exact out_forget [] ⟨rfl, rfl⟩ rfl (okB2_spec rfl) trivial rfl rfl)
    | (rw [hp]; exact out_forget [] ⟨rfl, rfl⟩ rfl (okB2_spec rfl) trivial rfl rfl)
    | (refine StoreK.mk rfl ?_; conv => whnf)
    | exact join_same
    | exact (by assumption : (_ : Bool) = (_ : Bool))
    | (refine br_true (by assumption) ?_; conv => whnf)
    | (refine br_false (by assumption) ?_; conv => whnf)
    | (refine br_not ?_; conv => whnf)
    | (refine br_code ?_; conv => whnf)
    | (with_reducible refine br_and ?_; conv => whnf)
    | (with_reducible refine br_or ?_; conv => whnf)
    | (refine br_eq2 ?_; conv => whnf)
    | (refine c_l05Code_1.call1 rfl rfl ⟨_, rfl⟩ ?_; conv => whnf)
    | (refine c_l05Code_1.quiet1 rfl rfl ⟨_, rfl⟩ ?_; conv => whnf)
    | (refine c_l05Code_2.call1 rfl rfl ⟨_, rfl⟩ ?_; conv => whnf)
    | (refine c_l05Code_2.quiet1 rfl rfl ⟨_, rfl⟩ ?_; conv => whnf)
    | (refine c_l05Code_3.call1 rfl rfl ⟨_, rfl⟩ ?_; conv => whnf)
    | (refine c_l05Code_3.quiet1 rfl rfl ⟨_, rfl⟩ ?_; conv => whnf)
    | (refine (c_spec_l05Moved ?_).call ?_ <;> conv => whnf)
    | (refine (c_spec_l05Moved ?_).quiet ?_ <;> conv => whnf)
    | (refine (c_spec_l05Frame ?_).call ?_ <;> conv => whnf)
    | (refine (c_spec_l05Frame ?_).quiet ?_ <;> conv => whnf)
    | (refine c_spec_l01Minus.call ?_; conv => whnf)
    | (refine c_spec_l01Minus.quiet ?_; conv => whnf)
    | (refine (c_spec_l05Parents ?_).call ?_ <;> conv => whnf)
    | (refine (c_spec_l05Parents ?_).quiet ?_ <;> conv => whnf)
    | (refine (c_spec_l05Level ?_ ?_).call ?_ <;> conv => whnf)
    | (refine (c_spec_l05Level ?_ ?_).quiet ?_ <;> conv => whnf)
    | (refine c_spec_l01Apply.call ?_; conv => whnf)
    | (refine c_spec_l01Apply.quiet ?_; conv => whnf)
    | (refine c_spec_l05Turn.call ?_; conv => whnf)
    | (refine c_spec_l05Turn.quiet ?_; conv => whnf)
    | (refine draw_auto (by decide +kernel) ?_; conv => whnf)
    | (refine draw_asg (by decide +kernel) ?_; conv => whnf)
    | (refine draw_st (by decide +kernel) ?_; conv => whnf)
    | (refine draw_call (by decide +kernel) ?_; conv => whnf)
    | (refine enter_same (loop_n 12 ?_); conv => whnf)
    | (refine next_same ?_; conv => whnf)
    | (refine mapK_row (by assumption) ?_; conv => whnf)
    | (refine mapK_plain (Plain.of rfl) ?_; conv => whnf)
    | (refine mapK_lit ?_; conv => whnf)
    | (refine br_split (fun _ => ?_) (fun _ => ?_) <;> conv => whnf)
    | exact (rfl : (_ : Value) = _)
    | (simp only [*]; exact (rfl : (_ : Value) = _))
    | (simp [*]; done))

theorem c_spec_GeodesicOf_no1 {a b c d : Int} (hp : (isPtF a b && isPtF c d) = false) : CallOK Try.prog n_spec_GeodesicOf [pt a b, pt c d] [] (fun v m_ => v = t2 (.slice none 0 0) (ii 1) ∧ m_ = []) := by
  refine callOK_ofF good fn_spec_GeodesicOf ?_
  conv => whnf
  all_goals (repeat' first
    | (refine br_fault ?_; conv => whnf)
    | exact hM
    | exact p1_
    | exact absurd (And.intro (eq_of_dec (show decide (a = c) = true by assumption)) (eq_of_dec (show decide (b = d) = true by assumption))) hn
    | exact out_forget [] ⟨rfl, rfl⟩ rfl (okB2_spec rfl) trivial rfl rfl
    | (rw [hp, hf]; exact out_forget [] ⟨rfl, rfl⟩ rfl (okB2_spec rfl) trivial rfl rfl)
    | (rw [hp]; exact out_forget [] ⟨rfl, rfl⟩ rfl (okB2_spec rfl) trivial rfl rfl)
    | (refine StoreK.mk rfl ?_; conv => whnf)
    | exact join_same
    | exact (by assumption : (_ : Bool) = (_ : Bool))
    | (refine br_true (by assumption) ?_; conv => whnf)
    | (refine br_false (by assumption) ?_; conv => whnf)
    | (refine br_not ?_; conv => whnf)
    | (refine br_code ?_; conv => whnf)
    | (with_reducible refine br_and ?_; conv => whnf)
    | (with_reducible refine br_or ?_; conv => whnf)
    | (refine br_eq2 ?_; conv => whnf)
    | (refine c_l05Code_1.call1 rfl rfl ⟨_, rfl⟩ ?_; conv => whnf)
    | (refine c_l05Code_1.quiet1 rfl rfl ⟨_, rfl⟩ ?_; conv => whnf)
    | (refine c_l05Code_2.call1 rfl rfl ⟨_, rfl⟩ ?_; conv => whnf)
    | (refine c_l05Code_2.quiet1 rfl rfl ⟨_, rfl⟩ ?_; conv => whnf)
    | (refine c_l05Code_3.call1 rfl rfl ⟨_, rfl⟩ ?_; conv => whnf)
    | (refine c_l05Code_3.quiet1 rfl rfl ⟨_, rfl⟩ ?_; conv => whnf)
    | (refine (c_spec_l05Moved ?_).call ?_ <;> conv => whnf)
    | (refine (c_spec_l05Moved ?_).quiet ?_ <;> conv => whnf)
    | (refine (c_spec_l05Frame ?_).call ?_ <;> conv => whnf)
    | (refine (c_spec_l05Frame ?_).quiet ?_ <;> conv => whnf)
    | (refine c_spec_l01Minus.call ?_; conv => whnf)
    | (refine c_spec_l01Minus.quiet ?_; conv => whnf)
    | (refine (c_spec_l05Parents ?_).call ?_ <;> conv => whnf)
    | (refine (c_spec_l05Parents ?_).quiet ?_ <;> conv => whnf)
    | (refine (c_spec_l05Level ?_ ?_).call ?_ <;> conv => whnf)
    | (refine (c_spec_l05Level ?_ ?_).quiet ?_ <;> conv => whnf)
    | (refine c_spec_l01Apply.call ?_; conv => whnf)
    | (refine c_spec_l01Apply.quiet ?_; conv => whnf)
    | (refine c_spec_l05Turn.call ?_; conv => whnf)
    | (refine c_spec_l05Turn.quiet ?_; conv => whnf)
    | (refine draw_auto (by decide +kernel) ?_; conv => whnf)
    | (refine draw_asg (by decide +kernel) ?_; conv => whnf)
    | (refine draw_st (by decide +kernel) ?_; conv => whnf)
    | (refine draw_call (by decide +kernel) ?_; conv => whnf)
    | (refine enter_same (loop_n 12 ?_); conv => whnf)
    | (refine next_same ?_; conv => whnf)
    | (refine mapK_row (by assumption) ?_; conv => whnf)
    | (refine mapK_plain (Plain.of rfl) ?_; conv => whnf)
    | (refine mapK_lit ?_; conv => whnf)
    | (refine br_split (fun _ => ?_) (fun _ => ?_) <;> conv => whnf)
    | exact (rfl : (_ : Value) = _)
    | (simp only [*]; exact (rfl : (_ : Value) = _))
    | (simp [*]; done))

end Go.Proofs.Ytnjepaboecijcaa
