/-
  Contracts of functions of the program (printed by a program of this work; Lean checks each).
  Conditions: as each contract states.
-/
import Derived.Test.YtnjepaboecijcaaK28
import Derived.Test.YtnjepaboecijcaaK4
import Derived.Test.YtnjepaboecijcaaFar
namespace Go.Proofs.Ytnjepaboecijcaa
open Go.Ev Go.RowKit
set_option maxRecDepth 100000
set_option linter.unusedVariables false
set_option linter.unusedSimpArgs false

attribute [local irreducible] isPtF isFracF plusF detF turnX turnY mateX mateY

theorem c_level_step {a b : Int} (n : Nat) (IH : ∀ {a b : Int}, FrOk a b → b.toNat < n → Pure Try.prog n_impl_Point_level [pt a b] (ii (levL a b))) (h : FrOk a b) (hn : b.toNat ≤ n) : Pure Try.prog n_impl_Point_level [pt a b] (ii (levL a b)) := by
  refine pure_of good fn_impl_Point_level rfl rfl ?_
  conv => whnf
  all_goals (repeat' first
    | (refine (IH (a := parR0 a b) (b := parR1 a b) (fr_parR (h.par ?_)) ?_).call ?_ <;> conv => whnf)
    | (refine (IH (a := parL0 a b) (b := parL1 a b) (fr_parL (h.par ?_)) ?_).call ?_ <;> conv => whnf)
    | (refine (IH (a := parR0 a b) (b := parR1 a b) (fr_parR (h.par ?_)) ?_).quiet ?_ <;> conv => whnf)
    | (refine (IH (a := parL0 a b) (b := parL1 a b) (fr_parL (h.par ?_)) ?_).quiet ?_ <;> conv => whnf)
    | (have hb_ := of_decide_eq_false (show decide (b < 2) = false by assumption); first | (exact h.par (by omega)) | (show (2 : Int) ≤ b; omega) | (show (parR1 a b).toNat < n; have := par_det (h.par (by omega)); omega) | (show (parL1 a b).toNat < n; have := par_det (h.par (by omega)); omega))
    | (exact congrArg (Value.int IntKind.i64) (lev_small h (of_decide_eq_true (show decide (b < 2) = true by assumption))).symm)
    | (exact congrArg (Value.int IntKind.i64) (lev_R (h.par (by have := of_decide_eq_false (show decide (b < 2) = false by assumption); omega)) (of_decide_eq_true (show decide (parR1 a b < parL1 a b) = true by assumption))))
    | (exact congrArg (Value.int IntKind.i64) (lev_Lf (h.par (by have := of_decide_eq_false (show decide (b < 2) = false by assumption); omega)) (of_decide_eq_false (show decide (parR1 a b < parL1 a b) = false by assumption))))
    | (refine StoreK.mk rfl ?_; conv => whnf)
    | exact join_same
    | exact (by assumption : (_ : Bool) = (_ : Bool))
    | (refine br_true (by assumption) ?_; conv => whnf)
    | (refine br_false (by assumption) ?_; conv => whnf)
    | (refine br_not ?_; conv => whnf)
    | (refine br_code ?_; conv => whnf)
    | (with_reducible refine br_and ?_; conv => whnf)
    | (with_reducible refine br_or ?_; conv => whnf)
    | (refine br_eq2 ?_; conv => whnf)
    | (refine (c_impl_Point_parents ?_).call ?_ <;> conv => whnf)
    | (refine (c_impl_Point_parents ?_).quiet ?_ <;> conv => whnf)
    | (refine draw_auto (by decide +kernel) ?_; conv => whnf)
    | (refine draw_asg (by decide +kernel) ?_; conv => whnf)
    | (refine draw_st (by decide +kernel) ?_; conv => whnf)
    | (refine draw_call (by decide +kernel) ?_; conv => whnf)
    | (refine enter_same (loop_n 12 ?_); conv => whnf)
    | (refine next_same ?_; conv => whnf)
    | (refine mapK_row (by assumption) ?_; conv => whnf)
    | (refine mapK_plain (Plain.of rfl) ?_; conv => whnf)
    | (refine mapK_lit ?_; conv => whnf)
    | (refine br_split (fun _ => ?_) (fun _ => ?_) <;> conv => whnf)
    | exact (rfl : (_ : Value) = _)
    | (simp only [*]; exact (rfl : (_ : Value) = _))
    | (simp [*]; done))

theorem c_impl_level : ∀ (n : Nat) {a b : Int}, FrOk a b → b.toNat < n → Pure Try.prog n_impl_Point_level [pt a b] (ii (levL a b))
  | 0, a, b, h, hn => absurd hn (Nat.not_lt_zero _)
  | n + 1, a, b, h, hn => c_level_step n (fun h hn => c_impl_level n h hn) h (by omega)
theorem c_level {a b : Int} (h : FrOk a b) : Pure Try.prog n_impl_Point_level [pt a b] (ii (levL a b)) := c_impl_level _ h (Nat.lt_succ_self _)

set_option maxHeartbeats 1000000 in
theorem c_spec_l05Level {a b : Int} (h : FrOk a b) (h1 : 1 ≤ b) : Pure Try.prog n_spec_l05Level [pt a b] (ii (levL a b)) := by
  refine pure_of good fn_spec_l05Level rfl rfl ?_
  conv => whnf
  all_goals (repeat' first
    | (refine br_false (b := decide (b = 0)) (decide_eq_false ?_) ?_; (focus omega); conv => whnf)
    | exact decide_eq_false (show ¬ b = 0 by omega)
    | (refine enter_forget [0, 1, 2] (loop_rec (fun (s : Int × Int × Int × Int × Int × Int) => match s with | (x, y, u, v, lo, hi) => [wild, .pointer (some ⟨0, 0, none⟩), wild, wild, .pointer (some ⟨1, 0, none⟩), .pointer (some ⟨2, 0, none⟩), ii lo, ii hi, wild, wild, wild, wild, wild, wild, wild, wild, wild, wild, wild, wild, wild, wild, wild, wild, wild, wild, wild, wild, wild, wild, wild, wild, wild, wild, wild, wild, wild, wild, wild, wild, wild, wild, wild, wild, wild]) (fun (s : Int × Int × Int × Int × Int × Int) => match s with | (x, y, u, v, lo, hi) => [([ii a, ii b], some t_impl_Point), ([ii x, ii y], some t_impl_Point), ([ii u, ii v], some t_impl_Point)]) (fun (s : Int × Int × Int × Int × Int × Int) => match s with | (x, y, u, v, lo, hi) => (b - (y + v)).toNat) (fun (s : Int × Int × Int × Int × Int × Int) => match s with | (x, y, u, v, lo, hi) => LvI a b x y u v lo hi) (floorF a b, 1, w64 (floorF a b + 1), 1, 1, 1) (LvI.start h (by have := of_decide_eq_false (show decide (b = 1) = false by assumption); omega)) ?_) (tmR_rfl rfl rfl) ⟨⟨⟨_, rfl, .plain rfl rfl (by first | exact Plain.of rfl | exact Row.all (by assumption))⟩⟩, ⟨⟨_, rfl, .plain rfl rfl (by first | exact Plain.of rfl | exact Row.all (by assumption))⟩⟩, ⟨⟨_, rfl, .plain rfl rfl (by first | exact Plain.of rfl | exact Row.all (by assumption))⟩⟩, trivial⟩ rfl rfl; rintro fuel_ ⟨x, y, u, v, lo, hi⟩ hI IH; replace hI : LvI a b x y u v lo hi := hI; conv => whnf)
    | exact next_forget [0, 1, 2] (IH (plusF x 1 u, plusF y 1 v, u, v, w64 (mini lo hi + 1), hi) (by have q_ := hI.up (by have e_ := hI.px; have d_ := of_decide_eq_true (show decide (detF a b (plusF x 1 u) (plusF y 1 v) > 0) = true by assumption); rw [e_.1, e_.2] at d_; exact d_); rw [hI.px.1, hI.px.2]; exact q_) (by have q_ := hI.mu1 (by have e_ := hI.px; have d_ := of_decide_eq_true (show decide (detF a b (plusF x 1 u) (plusF y 1 v) > 0) = true by assumption); rw [e_.1, e_.2] at d_; exact d_); show (b - (plusF y 1 v + v)).toNat < _; rw [hI.px.2]; exact q_)) (tmR_rfl rfl rfl) ⟨⟨⟨_, rfl, .plain rfl rfl (by first | exact Plain.of rfl | exact Row.all (by assumption))⟩⟩, ⟨⟨_, rfl, .plain rfl rfl (by first | exact Plain.of rfl | exact Row.all (by assumption))⟩⟩, ⟨⟨_, rfl, .plain rfl rfl (by first | exact Plain.of rfl | exact Row.all (by assumption))⟩⟩, trivial⟩ rfl rfl
    | exact next_forget [0, 1, 2] (IH (x, y, plusF x 1 u, plusF y 1 v, lo, w64 (mini lo hi + 1)) (by have q_ := hI.down (by have e_ := hI.px; have d0_ := of_decide_eq_false (show decide (detF a b (plusF x 1 u) (plusF y 1 v) = 0) = false by assumption); have d1_ := of_decide_eq_false (show decide (detF a b (plusF x 1 u) (plusF y 1 v) > 0) = false by assumption); rw [e_.1, e_.2] at d0_ d1_; omega); rw [hI.px.1, hI.px.2]; exact q_) (by have q_ := hI.mu2 (by have e_ := hI.px; have d0_ := of_decide_eq_false (show decide (detF a b (plusF x 1 u) (plusF y 1 v) = 0) = false by assumption); have d1_ := of_decide_eq_false (show decide (detF a b (plusF x 1 u) (plusF y 1 v) > 0) = false by assumption); rw [e_.1, e_.2] at d0_ d1_; omega); show (b - (y + plusF y 1 v)).toNat < _; rw [hI.px.2]; exact q_)) (tmR_rfl rfl rfl) ⟨⟨⟨_, rfl, .plain rfl rfl (by first | exact Plain.of rfl | exact Row.all (by assumption))⟩⟩, ⟨⟨_, rfl, .plain rfl rfl (by first | exact Plain.of rfl | exact Row.all (by assumption))⟩⟩, ⟨⟨_, rfl, .plain rfl rfl (by first | exact Plain.of rfl | exact Row.all (by assumption))⟩⟩, trivial⟩ rfl rfl
    | (exact congrArg (Value.int IntKind.i64) (hI.hit (by have e_ := hI.px; have d_ := of_decide_eq_true (show decide (detF a b (plusF x 1 u) (plusF y 1 v) = 0) = true by assumption); rw [e_.1, e_.2] at d_; exact d_)))
    | (exact congrArg (Value.int IntKind.i64) ((lev_small h (by have := of_decide_eq_true (show decide (b = 1) = true by assumption); omega)).trans (of_decide_eq_true (show decide (b = 1) = true by assumption))).symm)
    | (refine StoreK.mk rfl ?_; conv => whnf)
    | exact join_same
    | exact (by assumption : (_ : Bool) = (_ : Bool))
    | (refine br_true (by assumption) ?_; conv => whnf)
    | (refine br_false (by assumption) ?_; conv => whnf)
    | (refine br_not ?_; conv => whnf)
    | (refine br_code ?_; conv => whnf)
    | (with_reducible refine br_and ?_; conv => whnf)
    | (with_reducible refine br_or ?_; conv => whnf)
    | (refine br_eq2 ?_; conv => whnf)
    | (refine (c_spec_l01Floor ?_).call ?_ <;> conv => whnf)
    | (refine (c_spec_l01Floor ?_).quiet ?_ <;> conv => whnf)
    | (refine c_spec_l01Plus.call ?_; conv => whnf)
    | (refine c_spec_l01Plus.quiet ?_; conv => whnf)
    | (refine c_spec_l01Det.call ?_; conv => whnf)
    | (refine c_spec_l01Det.quiet ?_; conv => whnf)
    | (refine draw_auto (by decide +kernel) ?_; conv => whnf)
    | (refine draw_asg (by decide +kernel) ?_; conv => whnf)
    | (refine draw_st (by decide +kernel) ?_; conv => whnf)
    | (refine draw_call (by decide +kernel) ?_; conv => whnf)
    | (refine enter_same (loop_n 12 ?_); conv => whnf)
    | (refine next_same ?_; conv => whnf)
    | (refine mapK_row (by assumption) ?_; conv => whnf)
    | (refine mapK_plain (Plain.of rfl) ?_; conv => whnf)
    | (refine mapK_lit ?_; conv => whnf)
    | (refine br_split (fun _ => ?_) (fun _ => ?_) <;> conv => whnf)
    | exact (rfl : (_ : Value) = _)
    | (simp only [*]; exact (rfl : (_ : Value) = _))
    | (simp [*]; done))

theorem c_led_ok {a b c d : Int} (hp : (isPtF a b && isPtF c d) = true) (hf : (isFracF a b && isFracF c d) = true) (hM : isPtF (movX a b c d) (movY a b c d) = true) : Pure Try.prog n_impl_led [pt a b, pt c d] (t2 (pt (movX a b c d) (movY a b c d)) (ii 0)) := by
  have hq_ : isPtF a b = true ∧ isPtF c d = true := (by simpa using hp); have hg_ : isFracF a b = true ∧ isFracF c d = true := (by simpa using hf); have p1_ := hq_.1; have p2_ := hq_.2; have mv_ : MovOk a b c d := ⟨hg_.1, hg_.2⟩; have hM_ : isPtF (turnX (detF c d (mateX a b) (mateY a b)) (detF a b c d)) (turnY (detF c d (mateX a b) (mateY a b)) (detF a b c d)) = true := hM; refine pure_of good fn_impl_led rfl rfl ?_
  conv => whnf
  all_goals (repeat' first
    | (refine br_fault ?_; conv => whnf)
    | (refine StoreK.mk rfl ?_; conv => whnf)
    | exact join_same
    | exact (by assumption : (_ : Bool) = (_ : Bool))
    | (refine br_true (by assumption) ?_; conv => whnf)
    | (refine br_false (by assumption) ?_; conv => whnf)
    | (refine br_not ?_; conv => whnf)
    | (refine br_code ?_; conv => whnf)
    | (with_reducible refine br_and ?_; conv => whnf)
    | (with_reducible refine br_or ?_; conv => whnf)
    | (refine br_eq2 ?_; conv => whnf)
    | (refine c_fault_1.call1 rfl rfl ⟨_, rfl⟩ ?_; conv => whnf)
    | (refine c_fault_1.quiet1 rfl rfl ⟨_, rfl⟩ ?_; conv => whnf)
    | (refine c_fault_2.call1 rfl rfl ⟨_, rfl⟩ ?_; conv => whnf)
    | (refine c_fault_2.quiet1 rfl rfl ⟨_, rfl⟩ ?_; conv => whnf)
    | (refine c_fault_3.call1 rfl rfl ⟨_, rfl⟩ ?_; conv => whnf)
    | (refine c_fault_3.quiet1 rfl rfl ⟨_, rfl⟩ ?_; conv => whnf)
    | (refine (c_impl_Point_mate ?_).call ?_ <;> conv => whnf)
    | (refine (c_impl_Point_mate ?_).quiet ?_ <;> conv => whnf)
    | (refine c_impl_det.call ?_; conv => whnf)
    | (refine c_impl_det.quiet ?_; conv => whnf)
    | (refine c_impl_Point_fraction.call ?_; conv => whnf)
    | (refine c_impl_Point_fraction.quiet ?_; conv => whnf)
    | (refine c_impl_Point_told.call ?_; conv => whnf)
    | (refine c_impl_Point_told.quiet ?_; conv => whnf)
    | (refine draw_auto (by decide +kernel) ?_; conv => whnf)
    | (refine draw_asg (by decide +kernel) ?_; conv => whnf)
    | (refine draw_st (by decide +kernel) ?_; conv => whnf)
    | (refine draw_call (by decide +kernel) ?_; conv => whnf)
    | (refine enter_same (loop_n 12 ?_); conv => whnf)
    | (refine next_same ?_; conv => whnf)
    | (refine mapK_row (by assumption) ?_; conv => whnf)
    | (refine mapK_plain (Plain.of rfl) ?_; conv => whnf)
    | (refine mapK_lit ?_; conv => whnf)
    | (refine br_split (fun _ => ?_) (fun _ => ?_) <;> conv => whnf)
    | exact (rfl : (_ : Value) = _)
    | (first | (rw [hM_]; exact rfl) | (rw [hp, hf]; exact rfl) | (rw [hp]; exact rfl))
    | (simp only [*]; exact (rfl : (_ : Value) = _))
    | (simp [*]; done))

theorem c_led_no3 {a b c d : Int} (hp : (isPtF a b && isPtF c d) = true) (hf : (isFracF a b && isFracF c d) = true) (hM : isPtF (movX a b c d) (movY a b c d) = false) : Pure Try.prog n_impl_led [pt a b, pt c d] (t2 (pt 0 0) (ii 3)) := by
  have hq_ : isPtF a b = true ∧ isPtF c d = true := (by simpa using hp); have hg_ : isFracF a b = true ∧ isFracF c d = true := (by simpa using hf); have p1_ := hq_.1; have p2_ := hq_.2; have mv_ : MovOk a b c d := ⟨hg_.1, hg_.2⟩; have hM_ : isPtF (turnX (detF c d (mateX a b) (mateY a b)) (detF a b c d)) (turnY (detF c d (mateX a b) (mateY a b)) (detF a b c d)) = false := hM; refine pure_of good fn_impl_led rfl rfl ?_
  conv => whnf
  all_goals (repeat' first
    | (refine br_fault ?_; conv => whnf)
    | (refine StoreK.mk rfl ?_; conv => whnf)
    | exact join_same
    | exact (by assumption : (_ : Bool) = (_ : Bool))
    | (refine br_true (by assumption) ?_; conv => whnf)
    | (refine br_false (by assumption) ?_; conv => whnf)
    | (refine br_not ?_; conv => whnf)
    | (refine br_code ?_; conv => whnf)
    | (with_reducible refine br_and ?_; conv => whnf)
    | (with_reducible refine br_or ?_; conv => whnf)
    | (refine br_eq2 ?_; conv => whnf)
    | (refine c_fault_1.call1 rfl rfl ⟨_, rfl⟩ ?_; conv => whnf)
    | (refine c_fault_1.quiet1 rfl rfl ⟨_, rfl⟩ ?_; conv => whnf)
    | (refine c_fault_2.call1 rfl rfl ⟨_, rfl⟩ ?_; conv => whnf)
    | (refine c_fault_2.quiet1 rfl rfl ⟨_, rfl⟩ ?_; conv => whnf)
    | (refine c_fault_3.call1 rfl rfl ⟨_, rfl⟩ ?_; conv => whnf)
    | (refine c_fault_3.quiet1 rfl rfl ⟨_, rfl⟩ ?_; conv => whnf)
    | (refine (c_impl_Point_mate ?_).call ?_ <;> conv => whnf)
    | (refine (c_impl_Point_mate ?_).quiet ?_ <;> conv => whnf)
    | (refine c_impl_det.call ?_; conv => whnf)
    | (refine c_impl_det.quiet ?_; conv => whnf)
    | (refine c_impl_Point_fraction.call ?_; conv => whnf)
    | (refine c_impl_Point_fraction.quiet ?_; conv => whnf)
    | (refine c_impl_Point_told.call ?_; conv => whnf)
    | (refine c_impl_Point_told.quiet ?_; conv => whnf)
    | (refine draw_auto (by decide +kernel) ?_; conv => whnf)
    | (refine draw_asg (by decide +kernel) ?_; conv => whnf)
    | (refine draw_st (by decide +kernel) ?_; conv => whnf)
    | (refine draw_call (by decide +kernel) ?_; conv => whnf)
    | (refine enter_same (loop_n 12 ?_); conv => whnf)
    | (refine next_same ?_; conv => whnf)
    | (refine mapK_row (by assumption) ?_; conv => whnf)
    | (refine mapK_plain (Plain.of rfl) ?_; conv => whnf)
    | (refine mapK_lit ?_; conv => whnf)
    | (refine br_split (fun _ => ?_) (fun _ => ?_) <;> conv => whnf)
    | exact (rfl : (_ : Value) = _)
    | (first | (rw [hM_]; exact rfl) | (rw [hp, hf]; exact rfl) | (rw [hp]; exact rfl))
    | (simp only [*]; exact (rfl : (_ : Value) = _))
    | (simp [*]; done))

theorem c_led_no2 {a b c d : Int} (hp : (isPtF a b && isPtF c d) = true) (hf : (isFracF a b && isFracF c d) = false) : Pure Try.prog n_impl_led [pt a b, pt c d] (t2 (pt 0 0) (ii 2)) := by
  refine pure_of good fn_impl_led rfl rfl ?_
  conv => whnf
  all_goals (repeat' first
    | (refine br_fault ?_; conv => whnf)
    | (refine StoreK.mk rfl ?_; conv => whnf)
    | exact join_same
    | exact (by assumption : (_ : Bool) = (_ : Bool))
    | (refine br_true (by assumption) ?_; conv => whnf)
    | (refine br_false (by assumption) ?_; conv => whnf)
    | (refine br_not ?_; conv => whnf)
    | (refine br_code ?_; conv => whnf)
    | (with_reducible refine br_and ?_; conv => whnf)
    | (with_reducible refine br_or ?_; conv => whnf)
    | (refine br_eq2 ?_; conv => whnf)
    | (refine c_fault_1.call1 rfl rfl ⟨_, rfl⟩ ?_; conv => whnf)
    | (refine c_fault_1.quiet1 rfl rfl ⟨_, rfl⟩ ?_; conv => whnf)
    | (refine c_fault_2.call1 rfl rfl ⟨_, rfl⟩ ?_; conv => whnf)
    | (refine c_fault_2.quiet1 rfl rfl ⟨_, rfl⟩ ?_; conv => whnf)
    | (refine c_fault_3.call1 rfl rfl ⟨_, rfl⟩ ?_; conv => whnf)
    | (refine c_fault_3.quiet1 rfl rfl ⟨_, rfl⟩ ?_; conv => whnf)
    | (refine (c_impl_Point_mate ?_).call ?_ <;> conv => whnf)
    | (refine (c_impl_Point_mate ?_).quiet ?_ <;> conv => whnf)
    | (refine c_impl_det.call ?_; conv => whnf)
    | (refine c_impl_det.quiet ?_; conv => whnf)
    | (refine c_impl_Point_fraction.call ?_; conv => whnf)
    | (refine c_impl_Point_fraction.quiet ?_; conv => whnf)
    | (refine c_impl_Point_told.call ?_; conv => whnf)
    | (refine c_impl_Point_told.quiet ?_; conv => whnf)
    | (refine draw_auto (by decide +kernel) ?_; conv => whnf)
    | (refine draw_asg (by decide +kernel) ?_; conv => whnf)
    | (refine draw_st (by decide +kernel) ?_; conv => whnf)
    | (refine draw_call (by decide +kernel) ?_; conv => whnf)
    | (refine enter_same (loop_n 12 ?_); conv => whnf)
    | (refine next_same ?_; conv => whnf)
    | (refine mapK_row (by assumption) ?_; conv => whnf)
    | (refine mapK_plain (Plain.of rfl) ?_; conv => whnf)
    | (refine mapK_lit ?_; conv => whnf)
    | (refine br_split (fun _ => ?_) (fun _ => ?_) <;> conv => whnf)
    | exact (rfl : (_ : Value) = _)
    | (first | (rw [hM_]; exact rfl) | (rw [hp, hf]; exact rfl) | (rw [hp]; exact rfl))
    | (simp only [*]; exact (rfl : (_ : Value) = _))
    | (simp [*]; done))

theorem c_led_no1 {a b c d : Int} (hp : (isPtF a b && isPtF c d) = false) : Pure Try.prog n_impl_led [pt a b, pt c d] (t2 (pt 0 0) (ii 1)) := by
  refine pure_of good fn_impl_led rfl rfl ?_
  conv => whnf
  all_goals (repeat' first
    | (refine br_fault ?_; conv => whnf)
    | (refine StoreK.mk rfl ?_; conv => whnf)
    | exact join_same
    | exact (by assumption : (_ : Bool) = (_ : Bool))
    | (refine br_true (by assumption) ?_; conv => whnf)
    | (refine br_false (by assumption) ?_; conv => whnf)
    | (refine br_not ?_; conv => whnf)
    | (refine br_code ?_; conv => whnf)
    | (with_reducible refine br_and ?_; conv => whnf)
    | (with_reducible refine br_or ?_; conv => whnf)
    | (refine br_eq2 ?_; conv => whnf)
    | (refine c_fault_1.call1 rfl rfl ⟨_, rfl⟩ ?_; conv => whnf)
    | (refine c_fault_1.quiet1 rfl rfl ⟨_, rfl⟩ ?_; conv => whnf)
    | (refine c_fault_2.call1 rfl rfl ⟨_, rfl⟩ ?_; conv => whnf)
    | (refine c_fault_2.quiet1 rfl rfl ⟨_, rfl⟩ ?_; conv => whnf)
    | (refine c_fault_3.call1 rfl rfl ⟨_, rfl⟩ ?_; conv => whnf)
    | (refine c_fault_3.quiet1 rfl rfl ⟨_, rfl⟩ ?_; conv => whnf)
    | (refine (c_impl_Point_mate ?_).call ?_ <;> conv => whnf)
    | (refine (c_impl_Point_mate ?_).quiet ?_ <;> conv => whnf)
    | (refine c_impl_det.call ?_; conv => whnf)
    | (refine c_impl_det.quiet ?_; conv => whnf)
    | (refine c_impl_Point_fraction.call ?_; conv => whnf)
    | (refine c_impl_Point_fraction.quiet ?_; conv => whnf)
    | (refine c_impl_Point_told.call ?_; conv => whnf)
    | (refine c_impl_Point_told.quiet ?_; conv => whnf)
    | (refine draw_auto (by decide +kernel) ?_; conv => whnf)
    | (refine draw_asg (by decide +kernel) ?_; conv => whnf)
    | (refine draw_st (by decide +kernel) ?_; conv => whnf)
    | (refine draw_call (by decide +kernel) ?_; conv => whnf)
    | (refine enter_same (loop_n 12 ?_); conv => whnf)
    | (refine next_same ?_; conv => whnf)
    | (refine mapK_row (by assumption) ?_; conv => whnf)
    | (refine mapK_plain (Plain.of rfl) ?_; conv => whnf)
    | (refine mapK_lit ?_; conv => whnf)
    | (refine br_split (fun _ => ?_) (fun _ => ?_) <;> conv => whnf)
    | exact (rfl : (_ : Value) = _)
    | (first | (rw [hM_]; exact rfl) | (rw [hp, hf]; exact rfl) | (rw [hp]; exact rfl))
    | (simp only [*]; exact (rfl : (_ : Value) = _))
    | (simp [*]; done))

theorem c_spec_l05Frame {a b : Int} (h : isPtF a b = true) : Pure Try.prog n_spec_l05Frame [pt a b] (q4 (mateY a b) (w64 (0 - mateX a b)) (w64 (0 - b)) a) := by
  refine pure_of good fn_spec_l05Frame rfl rfl ?_
  conv => whnf
  all_goals (repeat' first
    | (refine StoreK.mk rfl ?_; conv => whnf)
    | exact join_same
    | exact (by assumption : (_ : Bool) = (_ : Bool))
    | (refine br_true (by assumption) ?_; conv => whnf)
    | (refine br_false (by assumption) ?_; conv => whnf)
    | (refine br_not ?_; conv => whnf)
    | (refine br_code ?_; conv => whnf)
    | (with_reducible refine br_and ?_; conv => whnf)
    | (with_reducible refine br_or ?_; conv => whnf)
    | (refine br_eq2 ?_; conv => whnf)
    | (refine (c_spec_l01Base ?_).call ?_ <;> conv => whnf)
    | (refine (c_spec_l01Base ?_).quiet ?_ <;> conv => whnf)
    | (refine draw_auto (by decide +kernel) ?_; conv => whnf)
    | (refine draw_asg (by decide +kernel) ?_; conv => whnf)
    | (refine draw_st (by decide +kernel) ?_; conv => whnf)
    | (refine draw_call (by decide +kernel) ?_; conv => whnf)
    | (refine enter_same (loop_n 12 ?_); conv => whnf)
    | (refine next_same ?_; conv => whnf)
    | (refine mapK_row (by assumption) ?_; conv => whnf)
    | (refine mapK_plain (Plain.of rfl) ?_; conv => whnf)
    | (refine mapK_lit ?_; conv => whnf)
    | (refine br_split (fun _ => ?_) (fun _ => ?_) <;> conv => whnf)
    | exact (rfl : (_ : Value) = _)
    | (simp only [*]; exact (rfl : (_ : Value) = _))
    | (simp [*]; done))

theorem c_spec_l05Moved {a b c d : Int} (p1_ : isPtF a b = true) : Pure Try.prog n_spec_l05Moved [pt a b, pt c d] (t2 (pt (movX a b c d) (movY a b c d)) (bb (isPtF (movX a b c d) (movY a b c d)))) := by
  refine pure_of good fn_spec_l05Moved rfl rfl ?_
  conv => whnf
  all_goals (repeat' first
    | (refine StoreK.mk rfl ?_; conv => whnf)
    | exact join_same
    | exact (by assumption : (_ : Bool) = (_ : Bool))
    | (refine br_true (by assumption) ?_; conv => whnf)
    | (refine br_false (by assumption) ?_; conv => whnf)
    | (refine br_not ?_; conv => whnf)
    | (refine br_code ?_; conv => whnf)
    | (with_reducible refine br_and ?_; conv => whnf)
    | (with_reducible refine br_or ?_; conv => whnf)
    | (refine br_eq2 ?_; conv => whnf)
    | (refine (c_spec_l05Frame ?_).call ?_ <;> conv => whnf)
    | (refine (c_spec_l05Frame ?_).quiet ?_ <;> conv => whnf)
    | (refine c_spec_l01Apply.call ?_; conv => whnf)
    | (refine c_spec_l01Apply.quiet ?_; conv => whnf)
    | (refine c_spec_l05Turn.call ?_; conv => whnf)
    | (refine c_spec_l05Turn.quiet ?_; conv => whnf)
    | (refine c_spec_l01Is.call ?_; conv => whnf)
    | (refine c_spec_l01Is.quiet ?_; conv => whnf)
    | (refine draw_auto (by decide +kernel) ?_; conv => whnf)
    | (refine draw_asg (by decide +kernel) ?_; conv => whnf)
    | (refine draw_st (by decide +kernel) ?_; conv => whnf)
    | (refine draw_call (by decide +kernel) ?_; conv => whnf)
    | (refine enter_same (loop_n 12 ?_); conv => whnf)
    | (refine next_same ?_; conv => whnf)
    | (refine mapK_row (by assumption) ?_; conv => whnf)
    | (refine mapK_plain (Plain.of rfl) ?_; conv => whnf)
    | (refine mapK_lit ?_; conv => whnf)
    | (refine br_split (fun _ => ?_) (fun _ => ?_) <;> conv => whnf)
    | exact (rfl : (_ : Value) = _)
    | (simp only [ap_det0, ap_det1]; exact rfl)
    | (simp only [*]; exact (rfl : (_ : Value) = _))
    | (simp [*]; done))

end Go.Proofs.Ytnjepaboecijcaa
