/-
  Contracts of functions of the program (printed by a program of this work; Lean checks each).
  Conditions: as each contract states.
-/
import Derived.Test.YtnjepaboecijcaaK37
namespace Go.Proofs.Ytnjepaboecijcaa
open Go.Ev Go.RowKit
set_option maxRecDepth 100000
set_option linter.unusedVariables false
set_option linter.unusedSimpArgs false

attribute [local irreducible] isPtF isFracF movX movY levL

theorem c_impl_FareyDistance_ok {a b c d : Int} (hp : (isPtF a b && isPtF c d) = true) (hf : (isFracF a b && isFracF c d) = true) (hn : ¬ (a = c ∧ b = d)) (hM : isPtF (movX a b c d) (movY a b c d) = true) : Pure Try.prog n_impl_FareyDistance [pt a b, pt c d] (t2 (ii (levL (movX a b c d) (movY a b c d))) (ii 0)) := by
  have hq_ : isPtF a b = true ∧ isPtF c d = true := (by simpa using hp); have hg_ : isFracF a b = true ∧ isFracF c d = true := (by simpa using hf); have p1_ := hq_.1; have p2_ := hq_.2; have mv_ : MovOk a b c d := ⟨hg_.1, hg_.2⟩; refine pure_of good fn_impl_FareyDistance rfl rfl ?_
  conv => whnf
  all_goals (repeat' first
    | (refine br_fault ?_; conv => whnf)
    | exact hM
    | exact p1_
    | exact absurd (And.intro (eq_of_dec (show decide (a = c) = true by assumption)) (eq_of_dec (show decide (b = d) = true by assumption))) hn
    | exact mov_fr mv_ hM
    | exact mov_pos mv_ hn
    | (refine br_true (decide_eq_true (rfl : (a : Int) = a)) ?_; conv => whnf)
    | (refine br_true (decide_eq_true (rfl : (b : Int) = b)) ?_; conv => whnf)
    | (refine StoreK.mk rfl ?_; conv => whnf)
    | exact join_same
    | exact (by assumption : (_ : Bool) = (_ : Bool))
    | (refine br_true (by assumption) ?_; conv => whnf)
    | (refine br_false (by assumption) ?_; conv => whnf)
    | (refine br_not ?_; conv => whnf)
    | (refine br_code ?_; conv => whnf)
    | (with_reducible refine br_and ?_; conv => whnf)
    | (with_reducible refine br_or ?_; conv => whnf)
    | (refine br_eq2 ?_; conv => whnf)
    | (refine (c_led_ok ?_ ?_ ?_).call ?_ <;> conv => whnf)
    | (refine (c_led_ok ?_ ?_ ?_).quiet ?_ <;> conv => whnf)
    | (refine (c_level ?_).call ?_ <;> conv => whnf)
    | (refine (c_level ?_).quiet ?_ <;> conv => whnf)
    | (refine draw_auto (by decide +kernel) ?_; conv => whnf)
    | (refine draw_asg (by decide +kernel) ?_; conv => whnf)
    | (refine draw_st (by decide +kernel) ?_; conv => whnf)
    | (refine draw_call (by decide +kernel) ?_; conv => whnf)
    | (refine enter_same (loop_n 12 ?_); conv => whnf)
    | (refine next_same ?_; conv => whnf)
    | (refine mapK_row (by assumption) ?_; conv => whnf)
    | (refine mapK_plain (Plain.of rfl) ?_; conv => whnf)
    | (refine mapK_lit ?_; conv => whnf)
    | (refine br_split (fun _ => ?_) (fun _ => ?_) <;> conv => whnf)
    | exact (rfl : (_ : Value) = _)
    | (first | (rw [l0_]; done) | (rw [l0_]; exact rfl) | (rw [hp, hf]; exact rfl) | (rw [hp]; exact rfl))
    | (simp only [*]; exact (rfl : (_ : Value) = _))
    | (simp [*]; done))

theorem c_impl_FareyDistance_no3 {a b c d : Int} (hp : (isPtF a b && isPtF c d) = true) (hf : (isFracF a b && isFracF c d) = true) (hn : ¬ (a = c ∧ b = d)) (hM : isPtF (movX a b c d) (movY a b c d) = false) : Pure Try.prog n_impl_FareyDistance [pt a b, pt c d] (t2 (ii 0) (ii 3)) := by
  have hq_ : isPtF a b = true ∧ isPtF c d = true := (by simpa using hp); have hg_ : isFracF a b = true ∧ isFracF c d = true := (by simpa using hf); have p1_ := hq_.1; have p2_ := hq_.2; have mv_ : MovOk a b c d := ⟨hg_.1, hg_.2⟩; refine pure_of good fn_impl_FareyDistance rfl rfl ?_
  conv => whnf
  all_goals (repeat' first
    | (refine br_fault ?_; conv => whnf)
    | exact hM
    | exact p1_
    | exact absurd (And.intro (eq_of_dec (show decide (a = c) = true by assumption)) (eq_of_dec (show decide (b = d) = true by assumption))) hn
    | exact mov_fr mv_ hM
    | exact mov_pos mv_ hn
    | (refine br_true (decide_eq_true (rfl : (a : Int) = a)) ?_; conv => whnf)
    | (refine br_true (decide_eq_true (rfl : (b : Int) = b)) ?_; conv => whnf)
    | (refine StoreK.mk rfl ?_; conv => whnf)
    | exact join_same
    | exact (by assumption : (_ : Bool) = (_ : Bool))
    | (refine br_true (by assumption) ?_; conv => whnf)
    | (refine br_false (by assumption) ?_; conv => whnf)
    | (refine br_not ?_; conv => whnf)
    | (refine br_code ?_; conv => whnf)
    | (with_reducible refine br_and ?_; conv => whnf)
    | (with_reducible refine br_or ?_; conv => whnf)
    | (refine br_eq2 ?_; conv => whnf)
    | (refine (c_led_no3 ?_ ?_ ?_).call ?_ <;> conv => whnf)
    | (refine (c_led_no3 ?_ ?_ ?_).quiet ?_ <;> conv => whnf)
    | (refine (c_level ?_).call ?_ <;> conv => whnf)
    | (refine (c_level ?_).quiet ?_ <;> conv => whnf)
    | (refine draw_auto (by decide +kernel) ?_; conv => whnf)
    | (refine draw_asg (by decide +kernel) ?_; conv => whnf)
    | (refine draw_st (by decide +kernel) ?_; conv => whnf)
    | (refine draw_call (by decide +kernel) ?_; conv => whnf)
    | (refine enter_same (loop_n 12 ?_); conv => whnf)
    | (refine next_same ?_; conv => whnf)
    | (refine mapK_row (by assumption) ?_; conv => whnf)
    | (refine mapK_plain (Plain.of rfl) ?_; conv => whnf)
    | (refine mapK_lit ?_; conv => whnf)
    | (refine br_split (fun _ => ?_) (fun _ => ?_) <;> conv => whnf)
    | exact (rfl : (_ : Value) = _)
    | (first | (rw [l0_]; done) | (rw [l0_]; exact rfl) | (rw [hp, hf]; exact rfl) | (rw [hp]; exact rfl))
    | (simp only [*]; exact (rfl : (_ : Value) = _))
    | (simp [*]; done))

theorem c_impl_FareyDistance_same {a b : Int} (hp : isPtF a b = true) (hf : isFracF a b = true) : Pure Try.prog n_impl_FareyDistance [pt a b, pt a b] (t2 (ii 0) (ii 0)) := by
  have p1_ := hp; have mv_ : MovOk a b a b := ⟨hf, hf⟩; have s1_ := mov_self hf; have hM : isPtF (movX a b a b) (movY a b a b) = true := (by rw [s1_.1, s1_.2]; exact isPtF_iff.2 (by omega)); have hp2_ : (isPtF a b && isPtF a b) = true := (by rw [hp]; rfl); have hf2_ : (isFracF a b && isFracF a b) = true := (by rw [hf]; rfl); have l0_ : levL (movX a b a b) (movY a b a b) = 0 := (by have q_ := lev_small (mov_fr mv_ hM) (by rw [s1_.2]; omega); rw [q_, s1_.2]); refine pure_of good fn_impl_FareyDistance rfl rfl ?_
  conv => whnf
  all_goals (repeat' first
    | (refine br_fault ?_; conv => whnf)
    | exact hM
    | exact p1_
    | exact absurd (And.intro (eq_of_dec (show decide (a = c) = true by assumption)) (eq_of_dec (show decide (b = d) = true by assumption))) hn
    | exact mov_fr mv_ hM
    | exact mov_pos mv_ hn
    | (refine br_true (decide_eq_true (rfl : (a : Int) = a)) ?_; conv => whnf)
    | (refine br_true (decide_eq_true (rfl : (b : Int) = b)) ?_; conv => whnf)
    | (refine StoreK.mk rfl ?_; conv => whnf)
    | exact join_same
    | exact (by assumption : (_ : Bool) = (_ : Bool))
    | (refine br_true (by assumption) ?_; conv => whnf)
    | (refine br_false (by assumption) ?_; conv => whnf)
    | (refine br_not ?_; conv => whnf)
    | (refine br_code ?_; conv => whnf)
    | (with_reducible refine br_and ?_; conv => whnf)
    | (with_reducible refine br_or ?_; conv => whnf)
    | (refine br_eq2 ?_; conv => whnf)
    | (refine (c_led_ok ?_ ?_ ?_).call ?_ <;> conv => whnf)
    | (refine (c_led_ok ?_ ?_ ?_).quiet ?_ <;> conv => whnf)
    | (refine (c_level ?_).call ?_ <;> conv => whnf)
    | (refine (c_level ?_).quiet ?_ <;> conv => whnf)
    | (refine draw_auto (by decide +kernel) ?_; conv => whnf)
    | (refine draw_asg (by decide +kernel) ?_; conv => whnf)
    | (refine draw_st (by decide +kernel) ?_; conv => whnf)
    | (refine draw_call (by decide +kernel) ?_; conv => whnf)
    | (refine enter_same (loop_n 12 ?_); conv => whnf)
    | (refine next_same ?_; conv => whnf)
    | (refine mapK_row (by assumption) ?_; conv => whnf)
    | (refine mapK_plain (Plain.of rfl) ?_; conv => whnf)
    | (refine mapK_lit ?_; conv => whnf)
    | (refine br_split (fun _ => ?_) (fun _ => ?_) <;> conv => whnf)
    | exact (rfl : (_ : Value) = _)
    | (first | (rw [l0_]; done) | (rw [l0_]; exact rfl) | (rw [hp, hf]; exact rfl) | (rw [hp]; exact rfl))
    | (simp only [*]; exact (rfl : (_ : Value) = _))
    | (simp [*]; done))

theorem c_impl_FareyDistance_no2 {a b c d : Int} (hp : (isPtF a b && isPtF c d) = true) (hf : (isFracF a b && isFracF c d) = false) : Pure Try.prog n_impl_FareyDistance [pt a b, pt c d] (t2 (ii 0) (ii 2)) := by
  refine pure_of good fn_impl_FareyDistance rfl rfl ?_
  conv => whnf
  all_goals (repeat' first
    | (refine br_fault ?_; conv => whnf)
    | exact hM
    | exact p1_
    | exact absurd (And.intro (eq_of_dec (show decide (a = c) = true by assumption)) (eq_of_dec (show decide (b = d) = true by assumption))) hn
    | exact mov_fr mv_ hM
    | exact mov_pos mv_ hn
    | (refine br_true (decide_eq_true (rfl : (a : Int) = a)) ?_; conv => whnf)
    | (refine br_true (decide_eq_true (rfl : (b : Int) = b)) ?_; conv => whnf)
    | (refine StoreK.mk rfl ?_; conv => whnf)
    | exact join_same
    | exact (by assumption : (_ : Bool) = (_ : Bool))
    | (refine br_true (by assumption) ?_; conv => whnf)
    | (refine br_false (by assumption) ?_; conv => whnf)
    | (refine br_not ?_; conv => whnf)
    | (refine br_code ?_; conv => whnf)
    | (with_reducible refine br_and ?_; conv => whnf)
    | (with_reducible refine br_or ?_; conv => whnf)
    | (refine br_eq2 ?_; conv => whnf)
    | (refine (c_led_no2 ?_ ?_).call ?_ <;> conv => whnf)
    | (refine (c_led_no2 ?_ ?_).quiet ?_ <;> conv => whnf)
    | (refine (c_level ?_).call ?_ <;> conv => whnf)
    | (refine (c_level ?_).quiet ?_ <;> conv => whnf)
    | (refine draw_auto (by decide +kernel) ?_; conv => whnf)
    | (refine draw_asg (by decide +kernel) ?_; conv => whnf)
    | (refine draw_st (by decide +kernel) ?_; conv => whnf)
    | (refine draw_call (by decide +kernel) ?_; conv => whnf)
    | (refine enter_same (loop_n 12 ?_); conv => whnf)
    | (refine next_same ?_; conv => whnf)
    | (refine mapK_row (by assumption) ?_; conv => whnf)
    | (refine mapK_plain (Plain.of rfl) ?_; conv => whnf)
    | (refine mapK_lit ?_; conv => whnf)
    | (refine br_split (fun _ => ?_) (fun _ => ?_) <;> conv => whnf)
    | exact (rfl : (_ : Value) = _)
    | (first | (rw [l0_]; done) | (rw [l0_]; exact rfl) | (rw [hp, hf]; exact rfl) | (rw [hp]; exact rfl))
    | (simp only [*]; exact (rfl : (_ : Value) = _))
    | (simp [*]; done))

theorem c_impl_FareyDistance_no1 {a b c d : Int} (hp : (isPtF a b && isPtF c d) = false) : Pure Try.prog n_impl_FareyDistance [pt a b, pt c d] (t2 (ii 0) (ii 1)) := by
  refine pure_of good fn_impl_FareyDistance rfl rfl ?_
  conv => whnf
  all_goals (repeat' first
    | (refine br_fault ?_; conv => whnf)
    | exact hM
    | exact p1_
    | exact absurd (And.intro (eq_of_dec (show decide (a = c) = true by assumption)) (eq_of_dec (show decide (b = d) = true by assumption))) hn
    | exact mov_fr mv_ hM
    | exact mov_pos mv_ hn
    | (refine br_true (decide_eq_true (rfl : (a : Int) = a)) ?_; conv => whnf)
    | (refine br_true (decide_eq_true (rfl : (b : Int) = b)) ?_; conv => whnf)
    | (refine StoreK.mk rfl ?_; conv => whnf)
    | exact join_same
    | exact (by assumption : (_ : Bool) = (_ : Bool))
    | (refine br_true (by assumption) ?_; conv => whnf)
    | (refine br_false (by assumption) ?_; conv => whnf)
    | (refine br_not ?_; conv => whnf)
    | (refine br_code ?_; conv => whnf)
    | (with_reducible refine br_and ?_; conv => whnf)
    | (with_reducible refine br_or ?_; conv => whnf)
    | (refine br_eq2 ?_; conv => whnf)
    | (refine (c_led_no1 ?_).call ?_ <;> conv => whnf)
    | (refine (c_led_no1 ?_).quiet ?_ <;> conv => whnf)
    | (refine (c_level ?_).call ?_ <;> conv => whnf)
    | (refine (c_level ?_).quiet ?_ <;> conv => whnf)
    | (refine draw_auto (by decide +kernel) ?_; conv => whnf)
    | (refine draw_asg (by decide +kernel) ?_; conv => whnf)
    | (refine draw_st (by decide +kernel) ?_; conv => whnf)
    | (refine draw_call (by decide +kernel) ?_; conv => whnf)
    | (refine enter_same (loop_n 12 ?_); conv => whnf)
    | (refine next_same ?_; conv => whnf)
    | (refine mapK_row (by assumption) ?_; conv => whnf)
    | (refine mapK_plain (Plain.of rfl) ?_; conv => whnf)
    | (refine mapK_lit ?_; conv => whnf)
    | (refine br_split (fun _ => ?_) (fun _ => ?_) <;> conv => whnf)
    | exact (rfl : (_ : Value) = _)
    | (first | (rw [l0_]; done) | (rw [l0_]; exact rfl) | (rw [hp, hf]; exact rfl) | (rw [hp]; exact rfl))
    | (simp only [*]; exact (rfl : (_ : Value) = _))
    | (simp [*]; done))

theorem c_spec_FareyDistance_ok {a b c d : Int} (hp : (isPtF a b && isPtF c d) = true) (hf : (isFracF a b && isFracF c d) = true) (hn : ¬ (a = c ∧ b = d)) (hM : isPtF (movX a b c d) (movY a b c d) = true) : Pure Try.prog n_spec_FareyDistance [pt a b, pt c d] (t2 (ii (levL (movX a b c d) (movY a b c d))) (ii 0)) := by
  have hq_ : isPtF a b = true ∧ isPtF c d = true := (by simpa using hp); have hg_ : isFracF a b = true ∧ isFracF c d = true := (by simpa using hf); have p1_ := hq_.1; have p2_ := hq_.2; have mv_ : MovOk a b c d := ⟨hg_.1, hg_.2⟩; refine pure_of good fn_spec_FareyDistance rfl rfl ?_
  conv => whnf
  all_goals (repeat' first
    | (refine br_fault ?_; conv => whnf)
    | exact hM
    | exact p1_
    | exact absurd (And.intro (eq_of_dec (show decide (a = c) = true by assumption)) (eq_of_dec (show decide (b = d) = true by assumption))) hn
    | exact mov_fr mv_ hM
    | exact mov_pos mv_ hn
    | (refine br_true (decide_eq_true (rfl : (a : Int) = a)) ?_; conv => whnf)
    | (refine br_true (decide_eq_true (rfl : (b : Int) = b)) ?_; conv => whnf)
    | (refine StoreK.mk rfl ?_; conv => whnf)
    | exact join_same
    | exact (by assumption : (_ : Bool) = (_ : Bool))
    | (refine br_true (by assumption) ?_; conv => whnf)
    | (refine br_false (by assumption) ?_; conv => whnf)
    | (refine br_not ?_; conv => whnf)
    | (refine br_code ?_; conv => whnf)
    | (with_reducible refine br_and ?_; conv => whnf)
    | (with_reducible refine br_or ?_; conv => whnf)
    | (refine br_eq2 ?_; conv => whnf)
    | (refine c_l05Code_1.call1 rfl rfl ⟨_, rfl⟩ ?_; conv => whnf)
    | (refine c_l05Code_1.quiet1 rfl rfl ⟨_, rfl⟩ ?_; conv => whnf)
    | (refine c_l05Code_2.call1 rfl rfl ⟨_, rfl⟩ ?_; conv => whnf)
    | (refine c_l05Code_2.quiet1 rfl rfl ⟨_, rfl⟩ ?_; conv => whnf)
    | (refine c_l05Code_3.call1 rfl rfl ⟨_, rfl⟩ ?_; conv => whnf)
    | (refine c_l05Code_3.quiet1 rfl rfl ⟨_, rfl⟩ ?_; conv => whnf)
    | (refine (c_spec_l05Moved ?_).call ?_ <;> conv => whnf)
    | (refine (c_spec_l05Moved ?_).quiet ?_ <;> conv => whnf)
    | (refine (c_spec_l05Level ?_ ?_).call ?_ <;> conv => whnf)
    | (refine (c_spec_l05Level ?_ ?_).quiet ?_ <;> conv => whnf)
    | (refine draw_auto (by decide +kernel) ?_; conv => whnf)
    | (refine draw_asg (by decide +kernel) ?_; conv => whnf)
    | (refine draw_st (by decide +kernel) ?_; conv => whnf)
    | (refine draw_call (by decide +kernel) ?_; conv => whnf)
    | (refine enter_same (loop_n 12 ?_); conv => whnf)
    | (refine next_same ?_; conv => whnf)
    | (refine mapK_row (by assumption) ?_; conv => whnf)
    | (refine mapK_plain (Plain.of rfl) ?_; conv => whnf)
    | (refine mapK_lit ?_; conv => whnf)
    | (refine br_split (fun _ => ?_) (fun _ => ?_) <;> conv => whnf)
    | exact (rfl : (_ : Value) = _)
    | (first | (rw [l0_]; done) | (rw [l0_]; exact rfl) | (rw [hp, hf]; exact rfl) | (rw [hp]; exact rfl))
    | (simp only [*]; exact (rfl : (_ : Value) = _))
    | (simp [*]; done))

theorem c_spec_FareyDistance_no3 {a b c d : Int} (hp : (isPtF a b && isPtF c d) = true) (hf : (isFracF a b && isFracF c d) = true) (hn : ¬ (a = c ∧ b = d)) (hM : isPtF (movX a b c d) (movY a b c d) = false) : Pure Try.prog n_spec_FareyDistance [pt a b, pt c d] (t2 (ii 0) (ii 3)) := by
  have hq_ : isPtF a b = true ∧ isPtF c d = true := (by simpa using hp); have hg_ : isFracF a b = true ∧ isFracF c d = true := (by simpa using hf); have p1_ := hq_.1; have p2_ := hq_.2; have mv_ : MovOk a b c d := ⟨hg_.1, hg_.2⟩; refine pure_of good fn_spec_FareyDistance rfl rfl ?_
  conv => whnf
  all_goals (repeat' first
    | (refine br_fault ?_; conv => whnf)
    | exact hM
    | exact p1_
    | exact absurd (And.intro (eq_of_dec (show decide (a = c) = true by assumption)) (eq_of_dec (show decide (b = d) = true by assumption))) hn
    | exact mov_fr mv_ hM
    | exact mov_pos mv_ hn
    | (refine br_true (decide_eq_true (rfl : (a : Int) = a)) ?_; conv => whnf)
    | (refine br_true (decide_eq_true (rfl : (b : Int) = b)) ?_; conv => whnf)
    | (refine StoreK.mk rfl ?_; conv => whnf)
    | exact join_same
    | exact (by assumption : (_ : Bool) = (_ : Bool))
    | (refine br_true (by assumption) ?_; conv => whnf)
    | (refine br_false (by assumption) ?_; conv => whnf)
    | (refine br_not ?_; conv => whnf)
    | (refine br_code ?_; conv => whnf)
    | (with_reducible refine br_and ?_; conv => whnf)
    | (with_reducible refine br_or ?_; conv => whnf)
    | (refine br_eq2 ?_; conv => whnf)
    | (refine c_l05Code_1.call1 rfl rfl ⟨_, rfl⟩ ?_; conv => whnf)
    | (refine c_l05Code_1.quiet1 rfl rfl ⟨_, rfl⟩ ?_; conv => whnf)
    | (refine c_l05Code_2.call1 rfl rfl ⟨_, rfl⟩ ?_; conv => whnf)
    | (refine c_l05Code_2.quiet1 rfl rfl ⟨_, rfl⟩ ?_; conv => whnf)
    | (refine c_l05Code_3.call1 rfl rfl ⟨_, rfl⟩ ?_; conv => whnf)
    | (refine c_l05Code_3.quiet1 rfl rfl ⟨_, rfl⟩ ?_; conv => whnf)
    | (refine (c_spec_l05Moved ?_).call ?_ <;> conv => whnf)
    | (refine (c_spec_l05Moved ?_).quiet ?_ <;> conv => whnf)
    | (refine (c_spec_l05Level ?_ ?_).call ?_ <;> conv => whnf)
    | (refine (c_spec_l05Level ?_ ?_).quiet ?_ <;> conv => whnf)
    | (refine draw_auto (by decide +kernel) ?_; conv => whnf)
    | (refine draw_asg (by decide +kernel) ?_; conv => whnf)
    | (refine draw_st (by decide +kernel) ?_; conv => whnf)
    | (refine draw_call (by decide +kernel) ?_; conv => whnf)
    | (refine enter_same (loop_n 12 ?_); conv => whnf)
    | (refine next_same ?_; conv => whnf)
    | (refine mapK_row (by assumption) ?_; conv => whnf)
    | (refine mapK_plain (Plain.of rfl) ?_; conv => whnf)
    | (refine mapK_lit ?_; conv => whnf)
    | (refine br_split (fun _ => ?_) (fun _ => ?_) <;> conv => whnf)
    | exact (rfl : (_ : Value) = _)
    | (first | (rw [l0_]; done) | (rw [l0_]; exact rfl) | (rw [hp, hf]; exact rfl) | (rw [hp]; exact rfl))
    | (simp only [*]; exact (rfl : (_ : Value) = _))
    | (simp [*]; done))

theorem c_spec_FareyDistance_same {a b : Int} (hp : isPtF a b = true) (hf : isFracF a b = true) : Pure Try.prog n_spec_FareyDistance [pt a b, pt a b] (t2 (ii 0) (ii 0)) := by
  have p1_ := hp; have mv_ : MovOk a b a b := ⟨hf, hf⟩; have s1_ := mov_self hf; have hM : isPtF (movX a b a b) (movY a b a b) = true := (by rw [s1_.1, s1_.2]; exact isPtF_iff.2 (by omega)); have hp2_ : (isPtF a b && isPtF a b) = true := (by rw [hp]; rfl); have hf2_ : (isFracF a b && isFracF a b) = true := (by rw [hf]; rfl); have l0_ : levL (movX a b a b) (movY a b a b) = 0 := (by have q_ := lev_small (mov_fr mv_ hM) (by rw [s1_.2]; omega); rw [q_, s1_.2]); refine pure_of good fn_spec_FareyDistance rfl rfl ?_
  conv => whnf
  all_goals (repeat' first
    | (refine br_fault ?_; conv => whnf)
    | exact hM
    | exact p1_
    | exact absurd (And.intro (eq_of_dec (show decide (a = c) = true by assumption)) (eq_of_dec (show decide (b = d) = true by assumption))) hn
    | exact mov_fr mv_ hM
    | exact mov_pos mv_ hn
    | (refine br_true (decide_eq_true (rfl : (a : Int) = a)) ?_; conv => whnf)
    | (refine br_true (decide_eq_true (rfl : (b : Int) = b)) ?_; conv => whnf)
    | (refine StoreK.mk rfl ?_; conv => whnf)
    | exact join_same
    | exact (by assumption : (_ : Bool) = (_ : Bool))
    | (refine br_true (by assumption) ?_; conv => whnf)
    | (refine br_false (by assumption) ?_; conv => whnf)
    | (refine br_not ?_; conv => whnf)
    | (refine br_code ?_; conv => whnf)
    | (with_reducible refine br_and ?_; conv => whnf)
    | (with_reducible refine br_or ?_; conv => whnf)
    | (refine br_eq2 ?_; conv => whnf)
    | (refine c_l05Code_1.call1 rfl rfl ⟨_, rfl⟩ ?_; conv => whnf)
    | (refine c_l05Code_1.quiet1 rfl rfl ⟨_, rfl⟩ ?_; conv => whnf)
    | (refine c_l05Code_2.call1 rfl rfl ⟨_, rfl⟩ ?_; conv => whnf)
    | (refine c_l05Code_2.quiet1 rfl rfl ⟨_, rfl⟩ ?_; conv => whnf)
    | (refine c_l05Code_3.call1 rfl rfl ⟨_, rfl⟩ ?_; conv => whnf)
    | (refine c_l05Code_3.quiet1 rfl rfl ⟨_, rfl⟩ ?_; conv => whnf)
    | (refine (c_spec_l05Moved ?_).call ?_ <;> conv => whnf)
    | (refine (c_spec_l05Moved ?_).quiet ?_ <;> conv => whnf)
    | (refine (c_spec_l05Level ?_ ?_).call ?_ <;> conv => whnf)
    | (refine (c_spec_l05Level ?_ ?_).quiet ?_ <;> conv => whnf)
    | (refine draw_auto (by decide +kernel) ?_; conv => whnf)
    | (refine draw_asg (by decide +kernel) ?_; conv => whnf)
    | (refine draw_st (by decide +kernel) ?_; conv => whnf)
    | (refine draw_call (by decide +kernel) ?_; conv => whnf)
    | (refine enter_same (loop_n 12 ?_); conv => whnf)
    | (refine next_same ?_; conv => whnf)
    | (refine mapK_row (by assumption) ?_; conv => whnf)
    | (refine mapK_plain (Plain.of rfl) ?_; conv => whnf)
    | (refine mapK_lit ?_; conv => whnf)
    | (refine br_split (fun _ => ?_) (fun _ => ?_) <;> conv => whnf)
    | exact (rfl : (_ : Value) = _)
    | (first | (rw [l0_]; done) | (rw [l0_]; exact rfl) | (rw [hp, hf]; exact rfl) | (rw [hp]; exact rfl))
    | (simp only [*]; exact (rfl : (_ : Value) = _))
    | (simp [*]; done))

theorem c_spec_FareyDistance_no2 {a b c d : Int} (hp : (isPtF a b && isPtF c d) = true) (hf : (isFracF a b && isFracF c d) = false) : Pure Try.prog n_spec_FareyDistance [pt a b, pt c d] (t2 (ii 0) (ii 2)) := by
  refine pure_of good fn_spec_FareyDistance rfl rfl ?_
  conv => whnf
  all_goals (repeat' first
    | (refine br_fault ?_; conv => whnf)
    | exact hM
    | exact p1_
    | exact absurd (And.intro (eq_of_dec (show decide (a = c) = true by assumption)) (eq_of_dec (show decide (b = d) = true by assumption))) hn
    | exact mov_fr mv_ hM
    | exact mov_pos mv_ hn
    | (refine br_true (decide_eq_true (rfl : (a : Int) = a)) ?_; conv => whnf)
    | (refine br_true (decide_eq_true (rfl : (b : Int) = b)) ?_; conv => whnf)
    | (refine StoreK.mk rfl ?_; conv => whnf)
    | exact join_same
    | exact (by assumption : (_ : Bool) = (_ : Bool))
    | (refine br_true (by assumption) ?_; conv => whnf)
    | (refine br_false (by assumption) ?_; conv => whnf)
    | (refine br_not ?_; conv => whnf)
    | (refine br_code ?_; conv => whnf)
    | (with_reducible refine br_and ?_; conv => whnf)
    | (with_reducible refine br_or ?_; conv => whnf)
    | (refine br_eq2 ?_; conv => whnf)
    | (refine c_l05Code_1.call1 rfl rfl ⟨_, rfl⟩ ?_; conv => whnf)
    | (refine c_l05Code_1.quiet1 rfl rfl ⟨_, rfl⟩ ?_; conv => whnf)
    | (refine c_l05Code_2.call1 rfl rfl ⟨_, rfl⟩ ?_; conv => whnf)
    | (refine c_l05Code_2.quiet1 rfl rfl ⟨_, rfl⟩ ?_; conv => whnf)
    | (refine c_l05Code_3.call1 rfl rfl ⟨_, rfl⟩ ?_; conv => whnf)
    | (refine c_l05Code_3.quiet1 rfl rfl ⟨_, rfl⟩ ?_; conv => whnf)
    | (refine (c_spec_l05Moved ?_).call ?_ <;> conv => whnf)
    | (refine (c_spec_l05Moved ?_).quiet ?_ <;> conv => whnf)
    | (refine (c_spec_l05Level ?_ ?_).call ?_ <;> conv => whnf)
    | (refine (c_spec_l05Level ?_ ?_).quiet ?_ <;> conv => whnf)
    | (refine draw_auto (by decide +kernel) ?_; conv => whnf)
    | (refine draw_asg (by decide +kernel) ?_; conv => whnf)
    | (refine draw_st (by decide +kernel) ?_; conv => whnf)
    | (refine draw_call (by decide +kernel) ?_; conv => whnf)
    | (refine enter_same (loop_n 12 ?_); conv => whnf)
    | (refine next_same ?_; conv => whnf)
    | (refine mapK_row (by assumption) ?_; conv => whnf)
    | (refine mapK_plain (Plain.of rfl) ?_; conv => whnf)
    | (refine mapK_lit ?_; conv => whnf)
    | (refine br_split (fun _ => ?_) (fun _ => ?_) <;> conv => whnf)
    | exact (rfl : (_ : Value) = _)
    | (first | (rw [l0_]; done) | (rw [l0_]; exact rfl) | (rw [hp, hf]; exact rfl) | (rw [hp]; exact rfl))
    | (simp only [*]; exact (rfl : (_ : Value) = _))
    | (simp [*]; done))

theorem c_spec_FareyDistance_no1 {a b c d : Int} (hp : (isPtF a b && isPtF c d) = false) : Pure Try.prog n_spec_FareyDistance [pt a b, pt c d] (t2 (ii 0) (ii 1)) := by
  refine pure_of good fn_spec_FareyDistance rfl rfl ?_
  conv => whnf
  all_goals (repeat' first
    | (refine br_fault ?_; conv => whnf)
    | exact hM
    | exact p1_
    | exact absurd (And.intro (eq_of_dec (show decide (a = c) = true by assumption)) (eq_of_dec (show decide (b = d) = true by assumption))) hn
    | exact mov_fr mv_ hM
    | exact mov_pos mv_ hn
    | (refine br_true (decide_eq_true (rfl : (a : Int) = a)) ?_; conv => whnf)
    | (refine br_true (decide_eq_true (rfl : (b : Int) = b)) ?_; conv => whnf)
    | (refine StoreK.mk rfl ?_; conv => whnf)
    | exact join_same
    | exact (by assumption : (_ : Bool) = (_ : Bool))
    | (refine br_true (by assumption) ?_; conv => whnf)
    | (refine br_false (by assumption) ?_; conv => whnf)
    | (refine br_not ?_; conv => whnf)
    | (refine br_code ?_; conv => whnf)
    | (with_reducible refine br_and ?_; conv => whnf)
    | (with_reducible refine br_or ?_; conv => whnf)
    | (refine br_eq2 ?_; conv => whnf)
    | (refine c_l05Code_1.call1 rfl rfl ⟨_, rfl⟩ ?_; conv => whnf)
    | (refine c_l05Code_1.quiet1 rfl rfl ⟨_, rfl⟩ ?_; conv => whnf)
    | (refine c_l05Code_2.call1 rfl rfl ⟨_, rfl⟩ ?_; conv => whnf)
    | (refine c_l05Code_2.quiet1 rfl rfl ⟨_, rfl⟩ ?_; conv => whnf)
    | (refine c_l05Code_3.call1 rfl rfl ⟨_, rfl⟩ ?_; conv => whnf)
    | (refine c_l05Code_3.quiet1 rfl rfl ⟨_, rfl⟩ ?_; conv => whnf)
    | (refine (c_spec_l05Moved ?_).call ?_ <;> conv => whnf)
    | (refine (c_spec_l05Moved ?_).quiet ?_ <;> conv => whnf)
    | (refine (c_spec_l05Level ?_ ?_).call ?_ <;> conv => whnf)
    | (refine (c_spec_l05Level ?_ ?_).quiet ?_ <;> conv => whnf)
    | (refine draw_auto (by decide +kernel) ?_; conv => whnf)
    | (refine draw_asg (by decide +kernel) ?_; conv => whnf)
    | (refine draw_st (by decide +kernel) ?_; conv => whnf)
    | (refine draw_call (by decide +kernel) ?_; conv => whnf)
    | (refine enter_same (loop_n 12 ?_); conv => whnf)
    | (refine next_same ?_; conv => whnf)
    | (refine mapK_row (by assumption) ?_; conv => whnf)
    | (refine mapK_plain (Plain.of rfl) ?_; conv => whnf)
    | (refine mapK_lit ?_; conv => whnf)
    | (refine br_split (fun _ => ?_) (fun _ => ?_) <;> conv => whnf)
    | exact (rfl : (_ : Value) = _)
    | (first | (rw [l0_]; done) | (rw [l0_]; exact rfl) | (rw [hp, hf]; exact rfl) | (rw [hp]; exact rfl))
    | (simp only [*]; exact (rfl : (_ : Value) = _))
    | (simp [*]; done))

theorem c_law_FareyDistance_ok {a b c d : Int} (hp : (isPtF a b && isPtF c d) = true) (hf : (isFracF a b && isFracF c d) = true) (hn : ¬ (a = c ∧ b = d)) (hM : isPtF (movX a b c d) (movY a b c d) = true) : Pure Try.prog n_laws_FnExactFareyDistance [pt a b, pt c d] (bb true) := by
  refine pure_of good fn_laws_FnExactFareyDistance rfl rfl ?_
  conv => whnf
  all_goals (repeat' first
    | exact hp
    | exact hf
    | exact hn
    | exact hM
    | (refine br_true ?_ ?_; (focus (simp; done)); conv => whnf)
    | (refine br_false ?_ ?_; (focus (simp; done)); conv => whnf)
    | (refine StoreK.mk rfl ?_; conv => whnf)
    | exact join_same
    | exact (by assumption : (_ : Bool) = (_ : Bool))
    | (refine br_true (by assumption) ?_; conv => whnf)
    | (refine br_false (by assumption) ?_; conv => whnf)
    | (refine br_not ?_; conv => whnf)
    | (refine br_code ?_; conv => whnf)
    | (with_reducible refine br_and ?_; conv => whnf)
    | (with_reducible refine br_or ?_; conv => whnf)
    | (refine br_eq2 ?_; conv => whnf)
    | (refine c_laws_toPoint.call ?_; conv => whnf)
    | (refine c_laws_toPoint.quiet ?_; conv => whnf)
    | (refine (c_spec_FareyDistance_ok ?_ ?_ ?_ ?_).call ?_ <;> conv => whnf)
    | (refine (c_spec_FareyDistance_ok ?_ ?_ ?_ ?_).quiet ?_ <;> conv => whnf)
    | (refine (c_impl_FareyDistance_ok ?_ ?_ ?_ ?_).call ?_ <;> conv => whnf)
    | (refine (c_impl_FareyDistance_ok ?_ ?_ ?_ ?_).quiet ?_ <;> conv => whnf)
    | (refine draw_auto (by decide +kernel) ?_; conv => whnf)
    | (refine draw_asg (by decide +kernel) ?_; conv => whnf)
    | (refine draw_st (by decide +kernel) ?_; conv => whnf)
    | (refine draw_call (by decide +kernel) ?_; conv => whnf)
    | (refine enter_same (loop_n 12 ?_); conv => whnf)
    | (refine next_same ?_; conv => whnf)
    | (refine mapK_row (by assumption) ?_; conv => whnf)
    | (refine mapK_plain (Plain.of rfl) ?_; conv => whnf)
    | (refine mapK_lit ?_; conv => whnf)
    | (refine br_split (fun _ => ?_) (fun _ => ?_) <;> conv => whnf)
    | exact (rfl : (_ : Value) = _)
    | (simp only [*]; exact (rfl : (_ : Value) = _))
    | (simp [*]; done))

theorem c_law_FareyDistance_no3 {a b c d : Int} (hp : (isPtF a b && isPtF c d) = true) (hf : (isFracF a b && isFracF c d) = true) (hn : ¬ (a = c ∧ b = d)) (hM : isPtF (movX a b c d) (movY a b c d) = false) : Pure Try.prog n_laws_FnExactFareyDistance [pt a b, pt c d] (bb true) := by
  refine pure_of good fn_laws_FnExactFareyDistance rfl rfl ?_
  conv => whnf
  all_goals (repeat' first
    | exact hp
    | exact hf
    | exact hn
    | exact hM
    | (refine br_true ?_ ?_; (focus (simp; done)); conv => whnf)
    | (refine br_false ?_ ?_; (focus (simp; done)); conv => whnf)
    | (refine StoreK.mk rfl ?_; conv => whnf)
    | exact join_same
    | exact (by assumption : (_ : Bool) = (_ : Bool))
    | (refine br_true (by assumption) ?_; conv => whnf)
    | (refine br_false (by assumption) ?_; conv => whnf)
    | (refine br_not ?_; conv => whnf)
    | (refine br_code ?_; conv => whnf)
    | (with_reducible refine br_and ?_; conv => whnf)
    | (with_reducible refine br_or ?_; conv => whnf)
    | (refine br_eq2 ?_; conv => whnf)
    | (refine c_laws_toPoint.call ?_; conv => whnf)
    | (refine c_laws_toPoint.quiet ?_; conv => whnf)
    | (refine (c_spec_FareyDistance_no3 ?_ ?_ ?_ ?_).call ?_ <;> conv => whnf)
    | (refine (c_spec_FareyDistance_no3 ?_ ?_ ?_ ?_).quiet ?_ <;> conv => whnf)
    | (refine (c_impl_FareyDistance_no3 ?_ ?_ ?_ ?_).call ?_ <;> conv => whnf)
    | (refine (c_impl_FareyDistance_no3 ?_ ?_ ?_ ?_).quiet ?_ <;> conv => whnf)
    | (refine draw_auto (by decide +kernel) ?_; conv => whnf)
    | (refine draw_asg (by decide +kernel) ?_; conv => whnf)
    | (refine draw_st (by decide +kernel) ?_; conv => whnf)
    | (refine draw_call (by decide +kernel) ?_; conv => whnf)
    | (refine enter_same (loop_n 12 ?_); conv => whnf)
    | (refine next_same ?_; conv => whnf)
    | (refine mapK_row (by assumption) ?_; conv => whnf)
    | (refine mapK_plain (Plain.of rfl) ?_; conv => whnf)
    | (refine mapK_lit ?_; conv => whnf)
    | (refine br_split (fun _ => ?_) (fun _ => ?_) <;> conv => whnf)
    | exact (rfl : (_ : Value) = _)
    | (simp only [*]; exact (rfl : (_ : Value) = _))
    | (simp [*]; done))

theorem c_law_FareyDistance_same {a b : Int} (hp : isPtF a b = true) (hf : isFracF a b = true) : Pure Try.prog n_laws_FnExactFareyDistance [pt a b, pt a b] (bb true) := by
  refine pure_of good fn_laws_FnExactFareyDistance rfl rfl ?_
  conv => whnf
  all_goals (repeat' first
    | exact hp
    | exact hf
    | exact hn
    | exact hM
    | (refine br_true ?_ ?_; (focus (simp; done)); conv => whnf)
    | (refine br_false ?_ ?_; (focus (simp; done)); conv => whnf)
    | (refine StoreK.mk rfl ?_; conv => whnf)
    | exact join_same
    | exact (by assumption : (_ : Bool) = (_ : Bool))
    | (refine br_true (by assumption) ?_; conv => whnf)
    | (refine br_false (by assumption) ?_; conv => whnf)
    | (refine br_not ?_; conv => whnf)
    | (refine br_code ?_; conv => whnf)
    | (with_reducible refine br_and ?_; conv => whnf)
    | (with_reducible refine br_or ?_; conv => whnf)
    | (refine br_eq2 ?_; conv => whnf)
    | (refine c_laws_toPoint.call ?_; conv => whnf)
    | (refine c_laws_toPoint.quiet ?_; conv => whnf)
    | (refine (c_spec_FareyDistance_same ?_ ?_).call ?_ <;> conv => whnf)
    | (refine (c_spec_FareyDistance_same ?_ ?_).quiet ?_ <;> conv => whnf)
    | (refine (c_impl_FareyDistance_same ?_ ?_).call ?_ <;> conv => whnf)
    | (refine (c_impl_FareyDistance_same ?_ ?_).quiet ?_ <;> conv => whnf)
    | (refine draw_auto (by decide +kernel) ?_; conv => whnf)
    | (refine draw_asg (by decide +kernel) ?_; conv => whnf)
    | (refine draw_st (by decide +kernel) ?_; conv => whnf)
    | (refine draw_call (by decide +kernel) ?_; conv => whnf)
    | (refine enter_same (loop_n 12 ?_); conv => whnf)
    | (refine next_same ?_; conv => whnf)
    | (refine mapK_row (by assumption) ?_; conv => whnf)
    | (refine mapK_plain (Plain.of rfl) ?_; conv => whnf)
    | (refine mapK_lit ?_; conv => whnf)
    | (refine br_split (fun _ => ?_) (fun _ => ?_) <;> conv => whnf)
    | exact (rfl : (_ : Value) = _)
    | (simp only [*]; exact (rfl : (_ : Value) = _))
    | (simp [*]; done))

theorem c_law_FareyDistance_no2 {a b c d : Int} (hp : (isPtF a b && isPtF c d) = true) (hf : (isFracF a b && isFracF c d) = false) : Pure Try.prog n_laws_FnExactFareyDistance [pt a b, pt c d] (bb true) := by
  refine pure_of good fn_laws_FnExactFareyDistance rfl rfl ?_
  conv => whnf
  all_goals (repeat' first
    | exact hp
    | exact hf
    | exact hn
    | exact hM
    | (refine br_true ?_ ?_; (focus (simp; done)); conv => whnf)
    | (refine br_false ?_ ?_; (focus (simp; done)); conv => whnf)
    | (refine StoreK.mk rfl ?_; conv => whnf)
    | exact join_same
    | exact (by assumption : (_ : Bool) = (_ : Bool))
    | (refine br_true (by assumption) ?_; conv => whnf)
    | (refine br_false (by assumption) ?_; conv => whnf)
    | (refine br_not ?_; conv => whnf)
    | (refine br_code ?_; conv => whnf)
    | (with_reducible refine br_and ?_; conv => whnf)
    | (with_reducible refine br_or ?_; conv => whnf)
    | (refine br_eq2 ?_; conv => whnf)
    | (refine c_laws_toPoint.call ?_; conv => whnf)
    | (refine c_laws_toPoint.quiet ?_; conv => whnf)
    | (refine (c_spec_FareyDistance_no2 ?_ ?_).call ?_ <;> conv => whnf)
    | (refine (c_spec_FareyDistance_no2 ?_ ?_).quiet ?_ <;> conv => whnf)
    | (refine (c_impl_FareyDistance_no2 ?_ ?_).call ?_ <;> conv => whnf)
    | (refine (c_impl_FareyDistance_no2 ?_ ?_).quiet ?_ <;> conv => whnf)
    | (refine draw_auto (by decide +kernel) ?_; conv => whnf)
    | (refine draw_asg (by decide +kernel) ?_; conv => whnf)
    | (refine draw_st (by decide +kernel) ?_; conv => whnf)
    | (refine draw_call (by decide +kernel) ?_; conv => whnf)
    | (refine enter_same (loop_n 12 ?_); conv => whnf)
    | (refine next_same ?_; conv => whnf)
    | (refine mapK_row (by assumption) ?_; conv => whnf)
    | (refine mapK_plain (Plain.of rfl) ?_; conv => whnf)
    | (refine mapK_lit ?_; conv => whnf)
    | (refine br_split (fun _ => ?_) (fun _ => ?_) <;> conv => whnf)
    | exact (rfl : (_ : Value) = _)
    | (simp only [*]; exact (rfl : (_ : Value) = _))
    | (simp [*]; done))

theorem c_law_FareyDistance_no1 {a b c d : Int} (hp : (isPtF a b && isPtF c d) = false) : Pure Try.prog n_laws_FnExactFareyDistance [pt a b, pt c d] (bb true) := by
  refine pure_of good fn_laws_FnExactFareyDistance rfl rfl ?_
  conv => whnf
  all_goals (repeat' first
    | exact hp
    | exact hf
    | exact hn
    | exact hM
    | (refine br_true ?_ ?_; (focus (simp; done)); conv => whnf)
    | (refine br_false ?_ ?_; (focus (simp; done)); conv => whnf)
    | (refine StoreK.mk rfl ?_; conv => whnf)
    | exact join_same
    | exact (by assumption : (_ : Bool) = (_ : Bool))
    | (refine br_true (by assumption) ?_; conv => whnf)
    | (refine br_false (by assumption) ?_; conv => whnf)
    | (refine br_not ?_; conv => whnf)
    | (refine br_code ?_; conv => whnf)
    | (with_reducible refine br_and ?_; conv => whnf)
    | (with_reducible refine br_or ?_; conv => whnf)
    | (refine br_eq2 ?_; conv => whnf)
    | (refine c_laws_toPoint.call ?_; conv => whnf)
    | (refine c_laws_toPoint.quiet ?_; conv => whnf)
    | (refine (c_spec_FareyDistance_no1 ?_).call ?_ <;> conv => whnf)
    | (refine (c_spec_FareyDistance_no1 ?_).quiet ?_ <;> conv => whnf)
    | (refine (c_impl_FareyDistance_no1 ?_).call ?_ <;> conv => whnf)
    | (refine (c_impl_FareyDistance_no1 ?_).quiet ?_ <;> conv => whnf)
    | (refine draw_auto (by decide +kernel) ?_; conv => whnf)
    | (refine draw_asg (by decide +kernel) ?_; conv => whnf)
    | (refine draw_st (by decide +kernel) ?_; conv => whnf)
    | (refine draw_call (by decide +kernel) ?_; conv => whnf)
    | (refine enter_same (loop_n 12 ?_); conv => whnf)
    | (refine next_same ?_; conv => whnf)
    | (refine mapK_row (by assumption) ?_; conv => whnf)
    | (refine mapK_plain (Plain.of rfl) ?_; conv => whnf)
    | (refine mapK_lit ?_; conv => whnf)
    | (refine br_split (fun _ => ?_) (fun _ => ?_) <;> conv => whnf)
    | exact (rfl : (_ : Value) = _)
    | (simp only [*]; exact (rfl : (_ : Value) = _))
    | (simp [*]; done))

theorem c_laws_FnExactFareyDistance {a b c d : Int} : Pure Try.prog n_laws_FnExactFareyDistance [pt a b, pt c d] (bb true) := by
  cases hp : (isPtF a b && isPtF c d)
  · exact c_law_FareyDistance_no1 hp
  · cases hf : (isFracF a b && isFracF c d)
    · exact c_law_FareyDistance_no2 hp hf
    · by_cases hn : a = c ∧ b = d
      · obtain ⟨rfl, rfl⟩ := hn
        exact c_law_FareyDistance_same (by simpa using hp) (by simpa using hf)
      · cases hM : isPtF (movX a b c d) (movY a b c d)
        · exact c_law_FareyDistance_no3 hp hf hn hM
        · exact c_law_FareyDistance_ok hp hf hn hM

end Go.Proofs.Ytnjepaboecijcaa
