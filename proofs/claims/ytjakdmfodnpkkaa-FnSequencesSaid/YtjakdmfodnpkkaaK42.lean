/-
  Contracts of functions of the program (printed by a program of this work; Lean checks each).
  Conditions: as each contract states.
-/
import Derived.Test.YtjakdmfodnpkkaaK41
namespace Go.Proofs.Ytjakdmfodnpkkaa
open Go.Ev Go.RowKit
set_option maxRecDepth 100000
set_option linter.unusedVariables false
set_option linter.unusedSimpArgs false

set_option maxHeartbeats 4000000 in
theorem c_spec_Ang_ok {xs : List Int} {sp : List Value} {n c : Nat} {p q : Int} (h1 : Row (il xs) sp n c 1) (hn : n ≤ 1048576) (ho : n % 2 = 1) (h60 : n ≤ 60) (hx : xs.any lowP = false) (ha : angF xs true 1 0 0 1 = some (p, q)) : CallOK Try.prog n_spec_AngleOfSequence [.slice (some ⟨0, 0, none⟩) n c] [(il xs ++ sp, none)] (fun v m_ => v = t2 (.slice (some ⟨1, 0, none⟩) 2 2) (ii 0) ∧ m_ = [(il xs ++ sp, none), (pl [(1, 0), (p, q)] ++ [], some t_impl_Point)]) := by
  obtain rfl := row_il h1; refine callOK_ofF good fn_spec_AngleOfSequence ?_
  conv => whnf
  all_goals (repeat' first
    | (refine br_true (b := decide ((xs.length : Int).tmod 2 = 1)) (decide_eq_true (tmod2'.2 ho)) ?_; conv => whnf)
    | (refine br_false (b := decide ((xs.length : Int).tmod 2 = 1)) (decide_eq_false (fun hh => ho (tmod2'.1 hh))) ?_; conv => whnf)
    | (refine br_false (b := decide ((xs.length : Int).tmod 2 = 0)) (decide_eq_false (fun hh => tmod2.1 hh ho)) ?_; conv => whnf)
    | (refine br_true (b := decide ((xs.length : Int).tmod 2 = 0)) (decide_eq_true (tmod2.2 ho)) ?_; conv => whnf)
    | (refine br_false (b := decide ((xs.length : Int) > 60)) (decide_eq_false ?_) ?_; (focus omega); conv => whnf)
    | (refine br_true (b := decide ((xs.length : Int) > 60)) (decide_eq_true ?_) ?_; (focus omega); conv => whnf)
    | (refine enter_forget [] (loop_rec (fun (s : Int) => match s with | i => [.slice (some ⟨0, 0, none⟩) xs.length c, wild, wild, wild, ii i, wild, wild, wild, wild, wild, wild, wild, wild, wild, wild, wild, wild, wild, wild, wild, wild, wild, wild, wild, wild, wild, wild, wild, wild, wild, wild, wild, wild, wild, wild, wild, wild, wild, wild, wild, wild, wild, wild, wild, wild, wild, wild, wild, wild, wild, wild, wild, wild, wild, wild, wild, wild, wild, wild, wild, wild, wild, wild, wild, wild, wild, wild, wild, wild, wild, wild, wild, wild, wild]) (fun (s : Int) => match s with | i => [(il xs ++ sp, none)]) (fun (s : Int) => match s with | i => ((xs.length : Int) - i).toNat) (fun (s : Int) => match s with | i => FirI lowP xs i) (0) (FirI.start lowP xs) ?_) (tmR_rfl rfl rfl) ⟨⟨⟨_, rfl, .plain rfl rfl (Row.all h1)⟩⟩, trivial⟩ rfl rfl; rintro fuel_1 i hI1 IH1; replace hI1 : FirI lowP xs i := hI1; conv => whnf)
    | (have g_ := hI1; (refine enter_forget [1, 2] (loop_rec (fun (s : Int × Int × Int × Int × Int) => match s with | (i, p_, q_, r_, s_) => [.slice (some ⟨0, 0, none⟩) xs.length c, wild, wild, wild, wild, .pointer (some ⟨1, 0, none⟩), .pointer (some ⟨2, 0, none⟩), ii i, wild, wild, wild, wild, wild, wild, wild, wild, wild, wild, wild, wild, wild, wild, wild, wild, wild, wild, wild, wild, wild, wild, wild, wild, wild, wild, wild, wild, wild, wild, wild, wild, wild, wild, wild, wild, wild, wild, wild, wild, wild, wild, wild, wild, wild, wild, wild, wild, wild, wild, wild, wild, wild, wild, wild, wild, wild, wild, wild, wild, wild, wild, wild, wild, wild, wild]) (fun (s : Int × Int × Int × Int × Int) => match s with | (i, p_, q_, r_, s_) => [(il xs ++ sp, none), ([ii p_, ii q_], some t_impl_Point), ([ii r_, ii s_], some t_impl_Point)]) (fun (s : Int × Int × Int × Int × Int) => match s with | (i, p_, q_, r_, s_) => ((xs.length : Int) - i).toNat) (fun (s : Int × Int × Int × Int × Int) => match s with | (i, p_, q_, r_, s_) => AngS xs i p_ q_ r_ s_) (0, 1, 0, 0, 1) (AngS.start xs) ?_) (tmR_rfl rfl rfl) ⟨⟨⟨_, rfl, .plain rfl rfl (Row.all h1)⟩⟩, ⟨⟨_, rfl, .plain rfl rfl (by first | exact Plain.of rfl | exact Row.all (by assumption))⟩⟩, ⟨⟨_, rfl, .plain rfl rfl (by first | exact Plain.of rfl | exact Row.all (by assumption))⟩⟩, trivial⟩ rfl rfl; rintro fuel_2 ⟨i, p_, q_, r_, s_⟩ hI2 IH2; replace hI2 : AngS xs i p_ q_ r_ s_ := hI2; conv => whnf))
    | (have g_ := hI2; rename decide (i.tmod 2 = 0) = true => q0_; exact next_forget [1, 2] (IH2 (w64 (i + 1), plusF p_ (xs.getD i.toNat 0) r_, plusF q_ (xs.getD i.toNat 0) s_, r_, s_) (by exact hI2.nextE (of_decide_eq_true (show decide (i < (xs.length : Int)) = true by assumption)) h60 hx (of_decide_eq_false (show decide (xs.getD i.toNat 0 > 1000000) = false by assumption)) (of_decide_eq_true q0_) (show isPtF (plusF p_ (xs.getD i.toNat 0) r_) (plusF q_ (xs.getD i.toNat 0) s_) = true by assumption)) (by exact idx_mu ⟨hI2.lo, hI2.hi⟩ (show decide (i < (xs.length : Int)) = true by assumption) (by omega))) (tmR_rfl rfl rfl) ⟨⟨⟨_, rfl, .plain rfl rfl (Row.all h1)⟩⟩, ⟨⟨_, rfl, .plain rfl rfl (by first | exact Plain.of rfl | exact Row.all (by assumption))⟩⟩, ⟨⟨_, rfl, .plain rfl rfl (by first | exact Plain.of rfl | exact Row.all (by assumption))⟩⟩, trivial⟩ rfl rfl)
    | (have g_ := hI2; rename decide (i.tmod 2 = 0) = false => q0_; exact next_forget [1, 2] (IH2 (w64 (i + 1), p_, q_, plusF r_ (xs.getD i.toNat 0) p_, plusF s_ (xs.getD i.toNat 0) q_) (by exact hI2.nextO (of_decide_eq_true (show decide (i < (xs.length : Int)) = true by assumption)) h60 hx (of_decide_eq_false (show decide (xs.getD i.toNat 0 > 1000000) = false by assumption)) (of_decide_eq_false q0_) (show isPtF (plusF r_ (xs.getD i.toNat 0) p_) (plusF s_ (xs.getD i.toNat 0) q_) = true by assumption)) (by exact idx_mu ⟨hI2.lo, hI2.hi⟩ (show decide (i < (xs.length : Int)) = true by assumption) (by omega))) (tmR_rfl rfl rfl) ⟨⟨⟨_, rfl, .plain rfl rfl (Row.all h1)⟩⟩, ⟨⟨_, rfl, .plain rfl rfl (by first | exact Plain.of rfl | exact Row.all (by assumption))⟩⟩, ⟨⟨_, rfl, .plain rfl rfl (by first | exact Plain.of rfl | exact Row.all (by assumption))⟩⟩, trivial⟩ rfl rfl)
    | exact next_forget [] (IH1 (w64 (i + 1)) (by exact hI1.next (of_decide_eq_true (show decide (i < (xs.length : Int)) = true by assumption)) hn (show lowP (xs.getD i.toNat 0) = false by assumption)) (by exact hI1.mu (of_decide_eq_true (show decide (i < (xs.length : Int)) = true by assumption)) hn)) (tmR_rfl rfl rfl) ⟨⟨⟨_, rfl, .plain rfl rfl (Row.all h1)⟩⟩, trivial⟩ rfl rfl
    | (refine br_in hI1.lo (of_decide_eq_true (show decide (i < (xs.length : Int)) = true by assumption)) ?_; conv => whnf)
    | (refine force_eq (take_il (xs := xs) (i := (i).toNat) ?_ ?_) ?_; (focus (simp only [Nat.mul_one, Nat.zero_add]; done)); (focus (have := hI1.lo; have := (of_decide_eq_true (show decide (i < (xs.length : Int)) = true by assumption)); omega; done)); conv => whnf)
    | (refine br_in hI2.lo (of_decide_eq_true (show decide (i < (xs.length : Int)) = true by assumption)) ?_; conv => whnf)
    | (refine force_eq (take_il (xs := xs) (i := (i).toNat) ?_ ?_) ?_; (focus (simp only [Nat.mul_one, Nat.zero_add]; done)); (focus (have := hI2.lo; have := (of_decide_eq_true (show decide (i < (xs.length : Int)) = true by assumption)); omega; done)); conv => whnf)
    | (have g_ := hI2; rename decide (i.tmod 2 = 0) = true => q0_; refine br_false (b := decide (i.tmod 2 = 1)) (decide_eq_false ?_) ?_; (focus (have := of_decide_eq_true q0_; omega)); conv => whnf)
    | (have g_ := hI2; rename decide (i.tmod 2 = 0) = false => q0_; refine br_true (b := decide (i.tmod 2 = 1)) (decide_eq_true ?_) ?_; (focus (have h_ := of_decide_eq_false q0_; rw [tmod_pos hI2.lo] at h_ ⊢; omega)); conv => whnf)
    | (have g_ := hI2; rename decide (i.tmod 2 = 0) = false => q0_; refine br_true (b := isPtF p_ q_) hI2.pt ?_; conv => whnf)
    | (show OutK _ _ _ _; rename decide (xs.getD i.toNat 0 < 1) = true => q0_; have h_ := hI1.no (of_decide_eq_true (show decide (i < (xs.length : Int)) = true by assumption)) hx; rw [show lowP (xs.getD i.toNat 0) = true from q0_] at h_; cases h_)
    | (rename decide (xs.getD i.toNat 0 < 1) = true => q0_; have h_ := hI1.no (of_decide_eq_true (show decide (i < (xs.length : Int)) = true by assumption)) hx; rw [show lowP (xs.getD i.toNat 0) = true from q0_] at h_; cases h_)
    | (show OutK _ _ _ _; have g_ := hI2; rename decide (xs.getD i.toNat 0 > 1000000) = true => q1_; have hq_ := hI2.failB (of_decide_eq_true (show decide (i < (xs.length : Int)) = true by assumption)) (of_decide_eq_true q1_); rw [ha] at hq_; first | (cases hq_; done) | (exact out_forget [] ⟨rfl, rfl⟩ rfl (okB2_spec rfl) ⟨⟨⟨_, rfl, .plain rfl rfl (Row.all h1)⟩⟩, trivial⟩ rfl rfl))
    | (have g_ := hI2; rename decide (i.tmod 2 = 0) = true => q0_; show OutK _ _ _ _; rename isPtF (plusF p_ (xs.getD i.toNat 0) r_) (plusF q_ (xs.getD i.toNat 0) s_) = false => q1_; have hq_ := hI2.failE (of_decide_eq_true (show decide (i < (xs.length : Int)) = true by assumption)) hx (of_decide_eq_false (show decide (xs.getD i.toNat 0 > 1000000) = false by assumption)) (of_decide_eq_true q0_) q1_; rw [ha] at hq_; first | (cases hq_; done) | (exact out_forget [] ⟨rfl, rfl⟩ rfl (okB2_spec rfl) ⟨⟨⟨_, rfl, .plain rfl rfl (Row.all h1)⟩⟩, trivial⟩ rfl rfl))
    | (have g_ := hI2; rename decide (i.tmod 2 = 0) = false => q0_; show OutK _ _ _ _; rename isPtF (plusF r_ (xs.getD i.toNat 0) p_) (plusF s_ (xs.getD i.toNat 0) q_) = false => q1_; have hq_ := hI2.failO (of_decide_eq_true (show decide (i < (xs.length : Int)) = true by assumption)) hx (of_decide_eq_false (show decide (xs.getD i.toNat 0 > 1000000) = false by assumption)) (of_decide_eq_false q0_) q1_; rw [ha] at hq_; first | (cases hq_; done) | (exact out_forget [] ⟨rfl, rfl⟩ rfl (okB2_spec rfl) ⟨⟨⟨_, rfl, .plain rfl rfl (Row.all h1)⟩⟩, trivial⟩ rfl rfl))
    | (show OutK _ _ _ _; have g_ := hI2; rename decide (i < (xs.length : Int)) = false => q0_; have hq_ := hI2.fin (of_decide_eq_false q0_); rw [ha] at hq_; first | (cases hq_; done) | (cases hq_; exact out_forget [_] ⟨rfl, rfl⟩ rfl (okB2_spec rfl) ⟨⟨⟨_, rfl, .plain rfl rfl (Row.all h1)⟩⟩, ⟨⟨_, rfl, .plain rfl rfl (by first | exact Plain.of rfl | exact Row.all (by assumption))⟩⟩, trivial⟩ rfl rfl))
    | (refine StoreK.mk rfl ?_; conv => whnf)
    | exact join_same
    | exact (by assumption : (_ : Bool) = (_ : Bool))
    | (refine br_true (by assumption) ?_; conv => whnf)
    | (refine br_false (by assumption) ?_; conv => whnf)
    | (refine br_not ?_; conv => whnf)
    | (refine br_code ?_; conv => whnf)
    | (with_reducible refine br_and ?_; conv => whnf)
    | (with_reducible refine br_or ?_; conv => whnf)
    | (refine br_eq2 ?_; conv => whnf)
    | (refine c_spec_l01Plus.call ?_; conv => whnf)
    | (refine c_spec_l01Plus.quiet ?_; conv => whnf)
    | (refine c_spec_l01Is.call ?_; conv => whnf)
    | (refine c_spec_l01Is.quiet ?_; conv => whnf)
    | (refine draw_auto (by decide +kernel) ?_; conv => whnf)
    | (refine draw_asg (by decide +kernel) ?_; conv => whnf)
    | (refine draw_st (by decide +kernel) ?_; conv => whnf)
    | (refine draw_call (by decide +kernel) ?_; conv => whnf)
    | (refine enter_same (loop_n 12 ?_); conv => whnf)
    | (refine next_same ?_; conv => whnf)
    | (refine mapK_row (by assumption) ?_; conv => whnf)
    | (refine mapK_plain (Plain.of rfl) ?_; conv => whnf)
    | (refine mapK_lit ?_; conv => whnf)
    | (refine br_split (fun _ => ?_) (fun _ => ?_) <;> conv => whnf)
    | exact (rfl : (_ : Value) = _)
    | (simp only [*]; exact (rfl : (_ : Value) = _))
    | (simp [*]; done))

set_option maxHeartbeats 4000000 in
theorem c_spec_Ang_none {xs : List Int} {sp : List Value} {n c : Nat} (h1 : Row (il xs) sp n c 1) (hn : n ≤ 1048576) (ho : n % 2 = 1) (h60 : n ≤ 60) (hx : xs.any lowP = false) (ha : angF xs true 1 0 0 1 = none) : CallOK Try.prog n_spec_AngleOfSequence [.slice (some ⟨0, 0, none⟩) n c] [(il xs ++ sp, none)] (fun v m_ => v = t2 (.slice none 0 0) (ii 3) ∧ m_ = [(il xs ++ sp, none)]) := by
  obtain rfl := row_il h1; refine callOK_ofF good fn_spec_AngleOfSequence ?_
  conv => whnf
  all_goals (repeat' first
    | (refine br_true (b := decide ((xs.length : Int).tmod 2 = 1)) (decide_eq_true (tmod2'.2 ho)) ?_; conv => whnf)
    | (refine br_false (b := decide ((xs.length : Int).tmod 2 = 1)) (decide_eq_false (fun hh => ho (tmod2'.1 hh))) ?_; conv => whnf)
    | (refine br_false (b := decide ((xs.length : Int).tmod 2 = 0)) (decide_eq_false (fun hh => tmod2.1 hh ho)) ?_; conv => whnf)
    | (refine br_true (b := decide ((xs.length : Int).tmod 2 = 0)) (decide_eq_true (tmod2.2 ho)) ?_; conv => whnf)
    | (refine br_false (b := decide ((xs.length : Int) > 60)) (decide_eq_false ?_) ?_; (focus omega); conv => whnf)
    | (refine br_true (b := decide ((xs.length : Int) > 60)) (decide_eq_true ?_) ?_; (focus omega); conv => whnf)
    | (refine enter_forget [] (loop_rec (fun (s : Int) => match s with | i => [.slice (some ⟨0, 0, none⟩) xs.length c, wild, wild, wild, ii i, wild, wild, wild, wild, wild, wild, wild, wild, wild, wild, wild, wild, wild, wild, wild, wild, wild, wild, wild, wild, wild, wild, wild, wild, wild, wild, wild, wild, wild, wild, wild, wild, wild, wild, wild, wild, wild, wild, wild, wild, wild, wild, wild, wild, wild, wild, wild, wild, wild, wild, wild, wild, wild, wild, wild, wild, wild, wild, wild, wild, wild, wild, wild, wild, wild, wild, wild, wild, wild]) (fun (s : Int) => match s with | i => [(il xs ++ sp, none)]) (fun (s : Int) => match s with | i => ((xs.length : Int) - i).toNat) (fun (s : Int) => match s with | i => FirI lowP xs i) (0) (FirI.start lowP xs) ?_) (tmR_rfl rfl rfl) ⟨⟨⟨_, rfl, .plain rfl rfl (Row.all h1)⟩⟩, trivial⟩ rfl rfl; rintro fuel_1 i hI1 IH1; replace hI1 : FirI lowP xs i := hI1; conv => whnf)
    | (have g_ := hI1; (refine enter_forget [1, 2] (loop_rec (fun (s : Int × Int × Int × Int × Int) => match s with | (i, p_, q_, r_, s_) => [.slice (some ⟨0, 0, none⟩) xs.length c, wild, wild, wild, wild, .pointer (some ⟨1, 0, none⟩), .pointer (some ⟨2, 0, none⟩), ii i, wild, wild, wild, wild, wild, wild, wild, wild, wild, wild, wild, wild, wild, wild, wild, wild, wild, wild, wild, wild, wild, wild, wild, wild, wild, wild, wild, wild, wild, wild, wild, wild, wild, wild, wild, wild, wild, wild, wild, wild, wild, wild, wild, wild, wild, wild, wild, wild, wild, wild, wild, wild, wild, wild, wild, wild, wild, wild, wild, wild, wild, wild, wild, wild, wild, wild]) (fun (s : Int × Int × Int × Int × Int) => match s with | (i, p_, q_, r_, s_) => [(il xs ++ sp, none), ([ii p_, ii q_], some t_impl_Point), ([ii r_, ii s_], some t_impl_Point)]) (fun (s : Int × Int × Int × Int × Int) => match s with | (i, p_, q_, r_, s_) => ((xs.length : Int) - i).toNat) (fun (s : Int × Int × Int × Int × Int) => match s with | (i, p_, q_, r_, s_) => AngS xs i p_ q_ r_ s_) (0, 1, 0, 0, 1) (AngS.start xs) ?_) (tmR_rfl rfl rfl) ⟨⟨⟨_, rfl, .plain rfl rfl (Row.all h1)⟩⟩, ⟨⟨_, rfl, .plain rfl rfl (by first | exact Plain.of rfl | exact Row.all (by assumption))⟩⟩, ⟨⟨_, rfl, .plain rfl rfl (by first | exact Plain.of rfl | exact Row.all (by assumption))⟩⟩, trivial⟩ rfl rfl; rintro fuel_2 ⟨i, p_, q_, r_, s_⟩ hI2 IH2; replace hI2 : AngS xs i p_ q_ r_ s_ := hI2; conv => whnf))
    | (have g_ := hI2; rename decide (i.tmod 2 = 0) = true => q0_; exact next_forget [1, 2] (IH2 (w64 (i + 1), plusF p_ (xs.getD i.toNat 0) r_, plusF q_ (xs.getD i.toNat 0) s_, r_, s_) (by exact hI2.nextE (of_decide_eq_true (show decide (i < (xs.length : Int)) = true by assumption)) h60 hx (of_decide_eq_false (show decide (xs.getD i.toNat 0 > 1000000) = false by assumption)) (of_decide_eq_true q0_) (show isPtF (plusF p_ (xs.getD i.toNat 0) r_) (plusF q_ (xs.getD i.toNat 0) s_) = true by assumption)) (by exact idx_mu ⟨hI2.lo, hI2.hi⟩ (show decide (i < (xs.length : Int)) = true by assumption) (by omega))) (tmR_rfl rfl rfl) ⟨⟨⟨_, rfl, .plain rfl rfl (Row.all h1)⟩⟩, ⟨⟨_, rfl, .plain rfl rfl (by first | exact Plain.of rfl | exact Row.all (by assumption))⟩⟩, ⟨⟨_, rfl, .plain rfl rfl (by first | exact Plain.of rfl | exact Row.all (by assumption))⟩⟩, trivial⟩ rfl rfl)
    | (have g_ := hI2; rename decide (i.tmod 2 = 0) = false => q0_; exact next_forget [1, 2] (IH2 (w64 (i + 1), p_, q_, plusF r_ (xs.getD i.toNat 0) p_, plusF s_ (xs.getD i.toNat 0) q_) (by exact hI2.nextO (of_decide_eq_true (show decide (i < (xs.length : Int)) = true by assumption)) h60 hx (of_decide_eq_false (show decide (xs.getD i.toNat 0 > 1000000) = false by assumption)) (of_decide_eq_false q0_) (show isPtF (plusF r_ (xs.getD i.toNat 0) p_) (plusF s_ (xs.getD i.toNat 0) q_) = true by assumption)) (by exact idx_mu ⟨hI2.lo, hI2.hi⟩ (show decide (i < (xs.length : Int)) = true by assumption) (by omega))) (tmR_rfl rfl rfl) ⟨⟨⟨_, rfl, .plain rfl rfl (Row.all h1)⟩⟩, ⟨⟨_, rfl, .plain rfl rfl (by first | exact Plain.of rfl | exact Row.all (by assumption))⟩⟩, ⟨⟨_, rfl, .plain rfl rfl (by first | exact Plain.of rfl | exact Row.all (by assumption))⟩⟩, trivial⟩ rfl rfl)
    | exact next_forget [] (IH1 (w64 (i + 1)) (by exact hI1.next (of_decide_eq_true (show decide (i < (xs.length : Int)) = true by assumption)) hn (show lowP (xs.getD i.toNat 0) = false by assumption)) (by exact hI1.mu (of_decide_eq_true (show decide (i < (xs.length : Int)) = true by assumption)) hn)) (tmR_rfl rfl rfl) ⟨⟨⟨_, rfl, .plain rfl rfl (Row.all h1)⟩⟩, trivial⟩ rfl rfl
    | (refine br_in hI1.lo (of_decide_eq_true (show decide (i < (xs.length : Int)) = true by assumption)) ?_; conv => whnf)
    | (refine force_eq (take_il (xs := xs) (i := (i).toNat) ?_ ?_) ?_; (focus (simp only [Nat.mul_one, Nat.zero_add]; done)); (focus (have := hI1.lo; have := (of_decide_eq_true (show decide (i < (xs.length : Int)) = true by assumption)); omega; done)); conv => whnf)
    | (refine br_in hI2.lo (of_decide_eq_true (show decide (i < (xs.length : Int)) = true by assumption)) ?_; conv => whnf)
    | (refine force_eq (take_il (xs := xs) (i := (i).toNat) ?_ ?_) ?_; (focus (simp only [Nat.mul_one, Nat.zero_add]; done)); (focus (have := hI2.lo; have := (of_decide_eq_true (show decide (i < (xs.length : Int)) = true by assumption)); omega; done)); conv => whnf)
    | (have g_ := hI2; rename decide (i.tmod 2 = 0) = true => q0_; refine br_false (b := decide (i.tmod 2 = 1)) (decide_eq_false ?_) ?_; (focus (have := of_decide_eq_true q0_; omega)); conv => whnf)
    | (have g_ := hI2; rename decide (i.tmod 2 = 0) = false => q0_; refine br_true (b := decide (i.tmod 2 = 1)) (decide_eq_true ?_) ?_; (focus (have h_ := of_decide_eq_false q0_; rw [tmod_pos hI2.lo] at h_ ⊢; omega)); conv => whnf)
    | (have g_ := hI2; rename decide (i.tmod 2 = 0) = false => q0_; refine br_true (b := isPtF p_ q_) hI2.pt ?_; conv => whnf)
    | (show OutK _ _ _ _; rename decide (xs.getD i.toNat 0 < 1) = true => q0_; have h_ := hI1.no (of_decide_eq_true (show decide (i < (xs.length : Int)) = true by assumption)) hx; rw [show lowP (xs.getD i.toNat 0) = true from q0_] at h_; cases h_)
    | (rename decide (xs.getD i.toNat 0 < 1) = true => q0_; have h_ := hI1.no (of_decide_eq_true (show decide (i < (xs.length : Int)) = true by assumption)) hx; rw [show lowP (xs.getD i.toNat 0) = true from q0_] at h_; cases h_)
    | (show OutK _ _ _ _; have g_ := hI2; rename decide (xs.getD i.toNat 0 > 1000000) = true => q1_; have hq_ := hI2.failB (of_decide_eq_true (show decide (i < (xs.length : Int)) = true by assumption)) (of_decide_eq_true q1_); rw [ha] at hq_; first | (cases hq_; done) | (exact out_forget [] ⟨rfl, rfl⟩ rfl (okB2_spec rfl) ⟨⟨⟨_, rfl, .plain rfl rfl (Row.all h1)⟩⟩, trivial⟩ rfl rfl))
    | (have g_ := hI2; rename decide (i.tmod 2 = 0) = true => q0_; show OutK _ _ _ _; rename isPtF (plusF p_ (xs.getD i.toNat 0) r_) (plusF q_ (xs.getD i.toNat 0) s_) = false => q1_; have hq_ := hI2.failE (of_decide_eq_true (show decide (i < (xs.length : Int)) = true by assumption)) hx (of_decide_eq_false (show decide (xs.getD i.toNat 0 > 1000000) = false by assumption)) (of_decide_eq_true q0_) q1_; rw [ha] at hq_; first | (cases hq_; done) | (exact out_forget [] ⟨rfl, rfl⟩ rfl (okB2_spec rfl) ⟨⟨⟨_, rfl, .plain rfl rfl (Row.all h1)⟩⟩, trivial⟩ rfl rfl))
    | (have g_ := hI2; rename decide (i.tmod 2 = 0) = false => q0_; show OutK _ _ _ _; rename isPtF (plusF r_ (xs.getD i.toNat 0) p_) (plusF s_ (xs.getD i.toNat 0) q_) = false => q1_; have hq_ := hI2.failO (of_decide_eq_true (show decide (i < (xs.length : Int)) = true by assumption)) hx (of_decide_eq_false (show decide (xs.getD i.toNat 0 > 1000000) = false by assumption)) (of_decide_eq_false q0_) q1_; rw [ha] at hq_; first | (cases hq_; done) | (exact out_forget [] ⟨rfl, rfl⟩ rfl (okB2_spec rfl) ⟨⟨⟨_, rfl, .plain rfl rfl (Row.all h1)⟩⟩, trivial⟩ rfl rfl))
    | (show OutK _ _ _ _; have g_ := hI2; rename decide (i < (xs.length : Int)) = false => q0_; have hq_ := hI2.fin (of_decide_eq_false q0_); rw [ha] at hq_; first | (cases hq_; done) | (cases hq_; exact out_forget [_] ⟨rfl, rfl⟩ rfl (okB2_spec rfl) ⟨⟨⟨_, rfl, .plain rfl rfl (Row.all h1)⟩⟩, ⟨⟨_, rfl, .plain rfl rfl (by first | exact Plain.of rfl | exact Row.all (by assumption))⟩⟩, trivial⟩ rfl rfl))
    | (refine StoreK.mk rfl ?_; conv => whnf)
    | exact join_same
    | exact (by assumption : (_ : Bool) = (_ : Bool))
    | (refine br_true (by assumption) ?_; conv => whnf)
    | (refine br_false (by assumption) ?_; conv => whnf)
    | (refine br_not ?_; conv => whnf)
    | (refine br_code ?_; conv => whnf)
    | (with_reducible refine br_and ?_; conv => whnf)
    | (with_reducible refine br_or ?_; conv => whnf)
    | (refine br_eq2 ?_; conv => whnf)
    | (refine c_spec_l01Plus.call ?_; conv => whnf)
    | (refine c_spec_l01Plus.quiet ?_; conv => whnf)
    | (refine c_spec_l01Is.call ?_; conv => whnf)
    | (refine c_spec_l01Is.quiet ?_; conv => whnf)
    | (refine draw_auto (by decide +kernel) ?_; conv => whnf)
    | (refine draw_asg (by decide +kernel) ?_; conv => whnf)
    | (refine draw_st (by decide +kernel) ?_; conv => whnf)
    | (refine draw_call (by decide +kernel) ?_; conv => whnf)
    | (refine enter_same (loop_n 12 ?_); conv => whnf)
    | (refine next_same ?_; conv => whnf)
    | (refine mapK_row (by assumption) ?_; conv => whnf)
    | (refine mapK_plain (Plain.of rfl) ?_; conv => whnf)
    | (refine mapK_lit ?_; conv => whnf)
    | (refine br_split (fun _ => ?_) (fun _ => ?_) <;> conv => whnf)
    | exact (rfl : (_ : Value) = _)
    | (simp only [*]; exact (rfl : (_ : Value) = _))
    | (simp [*]; done))

set_option maxHeartbeats 4000000 in
theorem c_spec_Ang_low {xs : List Int} {sp : List Value} {n c : Nat} (h1 : Row (il xs) sp n c 1) (hn : n ≤ 1048576) (ho : n % 2 = 1) (h60 : n ≤ 60) (hx : xs.any lowP = true) : CallOK Try.prog n_spec_AngleOfSequence [.slice (some ⟨0, 0, none⟩) n c] [(il xs ++ sp, none)] (fun v m_ => v = t2 (.slice none 0 0) (ii 2) ∧ m_ = [(il xs ++ sp, none)]) := by
  obtain rfl := row_il h1; refine callOK_ofF good fn_spec_AngleOfSequence ?_
  conv => whnf
  all_goals (repeat' first
    | (refine br_true (b := decide ((xs.length : Int).tmod 2 = 1)) (decide_eq_true (tmod2'.2 ho)) ?_; conv => whnf)
    | (refine br_false (b := decide ((xs.length : Int).tmod 2 = 1)) (decide_eq_false (fun hh => ho (tmod2'.1 hh))) ?_; conv => whnf)
    | (refine br_false (b := decide ((xs.length : Int).tmod 2 = 0)) (decide_eq_false (fun hh => tmod2.1 hh ho)) ?_; conv => whnf)
    | (refine br_true (b := decide ((xs.length : Int).tmod 2 = 0)) (decide_eq_true (tmod2.2 ho)) ?_; conv => whnf)
    | (refine br_false (b := decide ((xs.length : Int) > 60)) (decide_eq_false ?_) ?_; (focus omega); conv => whnf)
    | (refine br_true (b := decide ((xs.length : Int) > 60)) (decide_eq_true ?_) ?_; (focus omega); conv => whnf)
    | (refine enter_forget [] (loop_rec (fun (s : Int) => match s with | i => [.slice (some ⟨0, 0, none⟩) xs.length c, wild, wild, wild, ii i, wild, wild, wild, wild, wild, wild, wild, wild, wild, wild, wild, wild, wild, wild, wild, wild, wild, wild, wild, wild, wild, wild, wild, wild, wild, wild, wild, wild, wild, wild, wild, wild, wild, wild, wild, wild, wild, wild, wild, wild, wild, wild, wild, wild, wild, wild, wild, wild, wild, wild, wild, wild, wild, wild, wild, wild, wild, wild, wild, wild, wild, wild, wild, wild, wild, wild, wild, wild, wild]) (fun (s : Int) => match s with | i => [(il xs ++ sp, none)]) (fun (s : Int) => match s with | i => ((xs.length : Int) - i).toNat) (fun (s : Int) => match s with | i => FirI lowP xs i) (0) (FirI.start lowP xs) ?_) (tmR_rfl rfl rfl) ⟨⟨⟨_, rfl, .plain rfl rfl (Row.all h1)⟩⟩, trivial⟩ rfl rfl; rintro fuel_1 i hI1 IH1; replace hI1 : FirI lowP xs i := hI1; conv => whnf)
    | exact next_forget [] (IH1 (w64 (i + 1)) (by exact hI1.next (of_decide_eq_true (show decide (i < (xs.length : Int)) = true by assumption)) hn (show lowP (xs.getD i.toNat 0) = false by assumption)) (by exact hI1.mu (of_decide_eq_true (show decide (i < (xs.length : Int)) = true by assumption)) hn)) (tmR_rfl rfl rfl) ⟨⟨⟨_, rfl, .plain rfl rfl (Row.all h1)⟩⟩, trivial⟩ rfl rfl
    | (refine br_in hI1.lo (of_decide_eq_true (show decide (i < (xs.length : Int)) = true by assumption)) ?_; conv => whnf)
    | (refine force_eq (take_il (xs := xs) (i := (i).toNat) ?_ ?_) ?_; (focus (simp only [Nat.mul_one, Nat.zero_add]; done)); (focus (have := hI1.lo; have := (of_decide_eq_true (show decide (i < (xs.length : Int)) = true by assumption)); omega; done)); conv => whnf)
    | (show OutK _ _ _ _; rename decide (xs.getD i.toNat 0 < 1) = true => q0_; (exact out_forget [] ⟨rfl, rfl⟩ rfl (okB2_spec rfl) ⟨⟨⟨_, rfl, .plain rfl rfl (Row.all h1)⟩⟩, trivial⟩ rfl rfl))
    | (show OutK _ _ _ _; rename decide (i < (xs.length : Int)) = false => q0_; exact (hI1.never (of_decide_eq_false q0_) hx).elim)
    | (rename decide (i < (xs.length : Int)) = false => q0_; exact (hI1.never (of_decide_eq_false q0_) hx).elim)
    | (refine StoreK.mk rfl ?_; conv => whnf)
    | exact join_same
    | exact (by assumption : (_ : Bool) = (_ : Bool))
    | (refine br_true (by assumption) ?_; conv => whnf)
    | (refine br_false (by assumption) ?_; conv => whnf)
    | (refine br_not ?_; conv => whnf)
    | (refine br_code ?_; conv => whnf)
    | (with_reducible refine br_and ?_; conv => whnf)
    | (with_reducible refine br_or ?_; conv => whnf)
    | (refine br_eq2 ?_; conv => whnf)
    | (refine c_spec_l01Plus.call ?_; conv => whnf)
    | (refine c_spec_l01Plus.quiet ?_; conv => whnf)
    | (refine c_spec_l01Is.call ?_; conv => whnf)
    | (refine c_spec_l01Is.quiet ?_; conv => whnf)
    | (refine draw_auto (by decide +kernel) ?_; conv => whnf)
    | (refine draw_asg (by decide +kernel) ?_; conv => whnf)
    | (refine draw_st (by decide +kernel) ?_; conv => whnf)
    | (refine draw_call (by decide +kernel) ?_; conv => whnf)
    | (refine enter_same (loop_n 12 ?_); conv => whnf)
    | (refine next_same ?_; conv => whnf)
    | (refine mapK_row (by assumption) ?_; conv => whnf)
    | (refine mapK_plain (Plain.of rfl) ?_; conv => whnf)
    | (refine mapK_lit ?_; conv => whnf)
    | (refine br_split (fun _ => ?_) (fun _ => ?_) <;> conv => whnf)
    | exact (rfl : (_ : Value) = _)
    | (simp only [*]; exact (rfl : (_ : Value) = _))
    | (simp [*]; done))

set_option maxHeartbeats 4000000 in
theorem c_spec_Ang_len {xs : List Int} {sp : List Value} {n c : Nat} (h1 : Row (il xs) sp n c 1) (hn : n ≤ 1048576) (ho : n % 2 = 1) (h60 : ¬ n ≤ 60) : CallOK Try.prog n_spec_AngleOfSequence [.slice (some ⟨0, 0, none⟩) n c] [(il xs ++ sp, none)] (fun v m_ => v = t2 (.slice none 0 0) (ii 2) ∧ m_ = [(il xs ++ sp, none)]) := by
  obtain rfl := row_il h1; refine callOK_ofF good fn_spec_AngleOfSequence ?_
  conv => whnf
  all_goals (repeat' first
    | (refine br_true (b := decide ((xs.length : Int).tmod 2 = 1)) (decide_eq_true (tmod2'.2 ho)) ?_; conv => whnf)
    | (refine br_false (b := decide ((xs.length : Int).tmod 2 = 1)) (decide_eq_false (fun hh => ho (tmod2'.1 hh))) ?_; conv => whnf)
    | (refine br_false (b := decide ((xs.length : Int).tmod 2 = 0)) (decide_eq_false (fun hh => tmod2.1 hh ho)) ?_; conv => whnf)
    | (refine br_true (b := decide ((xs.length : Int).tmod 2 = 0)) (decide_eq_true (tmod2.2 ho)) ?_; conv => whnf)
    | (refine br_false (b := decide ((xs.length : Int) > 60)) (decide_eq_false ?_) ?_; (focus omega); conv => whnf)
    | (refine br_true (b := decide ((xs.length : Int) > 60)) (decide_eq_true ?_) ?_; (focus omega); conv => whnf)
    | (exact out_forget [] ⟨rfl, rfl⟩ rfl (okB2_spec rfl) ⟨⟨⟨_, rfl, .plain rfl rfl (Row.all h1)⟩⟩, trivial⟩ rfl rfl)
    | (refine StoreK.mk rfl ?_; conv => whnf)
    | exact join_same
    | exact (by assumption : (_ : Bool) = (_ : Bool))
    | (refine br_true (by assumption) ?_; conv => whnf)
    | (refine br_false (by assumption) ?_; conv => whnf)
    | (refine br_not ?_; conv => whnf)
    | (refine br_code ?_; conv => whnf)
    | (with_reducible refine br_and ?_; conv => whnf)
    | (with_reducible refine br_or ?_; conv => whnf)
    | (refine br_eq2 ?_; conv => whnf)
    | (refine c_spec_l01Plus.call ?_; conv => whnf)
    | (refine c_spec_l01Plus.quiet ?_; conv => whnf)
    | (refine c_spec_l01Is.call ?_; conv => whnf)
    | (refine c_spec_l01Is.quiet ?_; conv => whnf)
    | (refine draw_auto (by decide +kernel) ?_; conv => whnf)
    | (refine draw_asg (by decide +kernel) ?_; conv => whnf)
    | (refine draw_st (by decide +kernel) ?_; conv => whnf)
    | (refine draw_call (by decide +kernel) ?_; conv => whnf)
    | (refine enter_same (loop_n 12 ?_); conv => whnf)
    | (refine next_same ?_; conv => whnf)
    | (refine mapK_row (by assumption) ?_; conv => whnf)
    | (refine mapK_plain (Plain.of rfl) ?_; conv => whnf)
    | (refine mapK_lit ?_; conv => whnf)
    | (refine br_split (fun _ => ?_) (fun _ => ?_) <;> conv => whnf)
    | exact (rfl : (_ : Value) = _)
    | (simp only [*]; exact (rfl : (_ : Value) = _))
    | (simp [*]; done))

set_option maxHeartbeats 4000000 in
theorem c_spec_Ang_odd {xs : List Int} {sp : List Value} {n c : Nat} (h1 : Row (il xs) sp n c 1) (hn : n ≤ 1048576) (ho : ¬ n % 2 = 1) : CallOK Try.prog n_spec_AngleOfSequence [.slice (some ⟨0, 0, none⟩) n c] [(il xs ++ sp, none)] (fun v m_ => v = t2 (.slice none 0 0) (ii 2) ∧ m_ = [(il xs ++ sp, none)]) := by
  obtain rfl := row_il h1; refine callOK_ofF good fn_spec_AngleOfSequence ?_
  conv => whnf
  all_goals (repeat' first
    | (refine br_true (b := decide ((xs.length : Int).tmod 2 = 1)) (decide_eq_true (tmod2'.2 ho)) ?_; conv => whnf)
    | (refine br_false (b := decide ((xs.length : Int).tmod 2 = 1)) (decide_eq_false (fun hh => ho (tmod2'.1 hh))) ?_; conv => whnf)
    | (refine br_false (b := decide ((xs.length : Int).tmod 2 = 0)) (decide_eq_false (fun hh => tmod2.1 hh ho)) ?_; conv => whnf)
    | (refine br_true (b := decide ((xs.length : Int).tmod 2 = 0)) (decide_eq_true (tmod2.2 ho)) ?_; conv => whnf)
    | (refine br_false (b := decide ((xs.length : Int) > 60)) (decide_eq_false ?_) ?_; (focus omega); conv => whnf)
    | (refine br_true (b := decide ((xs.length : Int) > 60)) (decide_eq_true ?_) ?_; (focus omega); conv => whnf)
    | (exact out_forget [] ⟨rfl, rfl⟩ rfl (okB2_spec rfl) ⟨⟨⟨_, rfl, .plain rfl rfl (Row.all h1)⟩⟩, trivial⟩ rfl rfl)
    | (refine StoreK.mk rfl ?_; conv => whnf)
    | exact join_same
    | exact (by assumption : (_ : Bool) = (_ : Bool))
    | (refine br_true (by assumption) ?_; conv => whnf)
    | (refine br_false (by assumption) ?_; conv => whnf)
    | (refine br_not ?_; conv => whnf)
    | (refine br_code ?_; conv => whnf)
    | (with_reducible refine br_and ?_; conv => whnf)
    | (with_reducible refine br_or ?_; conv => whnf)
    | (refine br_eq2 ?_; conv => whnf)
    | (refine c_spec_l01Plus.call ?_; conv => whnf)
    | (refine c_spec_l01Plus.quiet ?_; conv => whnf)
    | (refine c_spec_l01Is.call ?_; conv => whnf)
    | (refine c_spec_l01Is.quiet ?_; conv => whnf)
    | (refine draw_auto (by decide +kernel) ?_; conv => whnf)
    | (refine draw_asg (by decide +kernel) ?_; conv => whnf)
    | (refine draw_st (by decide +kernel) ?_; conv => whnf)
    | (refine draw_call (by decide +kernel) ?_; conv => whnf)
    | (refine enter_same (loop_n 12 ?_); conv => whnf)
    | (refine next_same ?_; conv => whnf)
    | (refine mapK_row (by assumption) ?_; conv => whnf)
    | (refine mapK_plain (Plain.of rfl) ?_; conv => whnf)
    | (refine mapK_lit ?_; conv => whnf)
    | (refine br_split (fun _ => ?_) (fun _ => ?_) <;> conv => whnf)
    | exact (rfl : (_ : Value) = _)
    | (simp only [*]; exact (rfl : (_ : Value) = _))
    | (simp [*]; done))

end Go.Proofs.Ytjakdmfodnpkkaa
