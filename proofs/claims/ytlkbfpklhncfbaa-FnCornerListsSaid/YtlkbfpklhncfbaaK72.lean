/-
  Contracts of functions of the program (printed by a program of this work; Lean checks each).
  Conditions: as each contract states.
-/
import Derived.Test.YtlkbfpklhncfbaaK71
namespace Go.Proofs.Ytlkbfpklhncfbaa
open Go.Ev Go.RowKit
set_option maxRecDepth 100000
set_option linter.unusedVariables false
set_option linter.unusedSimpArgs false

attribute [local irreducible] isCornF bigF detF ofGo isCoordF

theorem c_l02OfList_ok {xs : List Int} {sp : List Value} {n c : Nat} {p0 q0 : Int} (h1 : Row (il xs) sp n c 1) (hn : n ≤ 1048576) (hg : ofGo xs.reverse 1 0 = some (p0, q0)) (hp : ¬ p0 = 0) : CallOK Try.prog n_spec_l02OfList [.slice (some ⟨0, 0, none⟩) n c] [(il xs ++ sp, none)] (fun v m_ => v = t2 (q4 1 0 q0 p0) (ii 0) ∧ m_ = [(il xs ++ sp, none)]) := by
  obtain rfl := row_il h1; refine callOK_ofF good fn_spec_l02OfList ?_
  conv => whnf
  all_goals (repeat' first
    | (refine enter_forget [1] (loop_rec (fun (s : Int × Int × Int) => match s with | (p, q, i) => [.slice (some ⟨0, 0, none⟩) xs.length c, wild, .pointer (some ⟨1, 0, none⟩), ii 0, ii p, ii q, ii i, wild, wild, wild, wild, wild, wild, wild, wild, wild, wild, wild, wild, wild, wild, wild, wild, wild, wild, wild, wild, wild, wild, wild, wild, wild, wild, wild, wild, wild, wild]) (fun (s : Int × Int × Int) => match s with | (p, q, i) => [(il xs ++ sp, none), ([ii 0, ii 0, ii 0, ii 0], some t_impl_Corner)]) (fun (s : Int × Int × Int) => match s with | (p, q, i) => (i + 1).toNat) (fun (s : Int × Int × Int) => match s with | (p, q, i) => OfI xs i p q) (1, 0, w64 ((xs.length : Int) - 1)) (OfI.start xs hn) ?_) (tmR_rfl rfl rfl) ⟨⟨⟨_, rfl, .plain rfl rfl (Row.all h1)⟩⟩, ⟨⟨_, rfl, .plain rfl rfl (by first | exact Plain.of rfl | exact Row.all (by assumption))⟩⟩, trivial⟩ rfl rfl; rintro fuel_ ⟨p, q, i⟩ hI IH; replace hI : OfI xs i p q := hI; conv => whnf)
    | exact next_forget [1] (IH (w64 (w64 (xs.getD i.toNat 0 * p) + q), p, w64 (i - 1)) (by exact hI.next hn (by assumption) (by assumption)) (by exact hI.mu hn (by assumption))) (tmR_rfl rfl rfl) ⟨⟨⟨_, rfl, .plain rfl rfl (Row.all h1)⟩⟩, ⟨⟨_, rfl, .plain rfl rfl (by first | exact Plain.of rfl | exact Row.all (by assumption))⟩⟩, trivial⟩ rfl rfl
    | (refine br_in (by have := of_decide_eq_true (show decide (i ≥ 0) = true by assumption); omega) (by have := hI.hi; omega) ?_; conv => whnf)
    | (refine force_eq (take_il (xs := xs) (i := (i).toNat) ?_ ?_) ?_; (focus (simp only [Nat.mul_one, Nat.zero_add]; done)); (focus (have := hI.hi; have := of_decide_eq_true (show decide (i ≥ 0) = true by assumption); omega; done)); conv => whnf)
    | (have e_ := hI.stop (by assumption) (by assumption); rw [hg] at e_; exfalso; cases e_; done)
    | (have e_ := hI.fin (by assumption); rw [hg] at e_; obtain ⟨rfl, rfl⟩ := Prod.mk.inj (Option.some.inj e_); exact absurd (eq_of_dec (by assumption)) hp)
    | (have e_ := hI.fin (by assumption); rw [hg] at e_; obtain ⟨rfl, rfl⟩ := Prod.mk.inj (Option.some.inj e_); exact out_forget [] ⟨rfl, rfl⟩ rfl (okB2_spec rfl) ⟨⟨⟨_, rfl, .plain rfl rfl (Row.all h1)⟩⟩, trivial⟩ rfl rfl)
    | (refine StoreK.mk rfl ?_; conv => whnf)
    | exact join_same
    | exact (by assumption : (_ : Bool) = (_ : Bool))
    | (refine br_true (by assumption) ?_; conv => whnf)
    | (refine br_false (by assumption) ?_; conv => whnf)
    | (refine br_not ?_; conv => whnf)
    | (refine br_code ?_; conv => whnf)
    | (with_reducible refine br_and ?_; conv => whnf)
    | (with_reducible refine br_or ?_; conv => whnf)
    | (refine br_eq2 ?_; conv => whnf)
    | (refine c_spec_l01Fits.call ?_; conv => whnf)
    | (refine c_spec_l01Fits.quiet ?_; conv => whnf)
    | (refine draw_auto (by decide +kernel) ?_; conv => whnf)
    | (refine draw_asg (by decide +kernel) ?_; conv => whnf)
    | (refine draw_st (by decide +kernel) ?_; conv => whnf)
    | (refine draw_call (by decide +kernel) ?_; conv => whnf)
    | (refine enter_same (loop_n 12 ?_); conv => whnf)
    | (refine next_same ?_; conv => whnf)
    | (refine mapK_row (by assumption) ?_; conv => whnf)
    | (refine mapK_plain (Plain.of rfl) ?_; conv => whnf)
    | (refine mapK_lit ?_; conv => whnf)
    | (refine br_split (fun _ => ?_) (fun _ => ?_) <;> conv => whnf)
    | exact (rfl : (_ : Value) = _)
    | (simp only [*]; exact (rfl : (_ : Value) = _))
    | (simp [*]; done))

theorem c_l02OfList_zero {xs : List Int} {sp : List Value} {n c : Nat} {p0 q0 : Int} (h1 : Row (il xs) sp n c 1) (hn : n ≤ 1048576) (hg : ofGo xs.reverse 1 0 = some (p0, q0)) (hp : p0 = 0) : CallOK Try.prog n_spec_l02OfList [.slice (some ⟨0, 0, none⟩) n c] [(il xs ++ sp, none)] (fun v m_ => v = t2 (q4 0 0 0 0) (ii 5) ∧ m_ = [(il xs ++ sp, none)]) := by
  obtain rfl := row_il h1; refine callOK_ofF good fn_spec_l02OfList ?_
  conv => whnf
  all_goals (repeat' first
    | (refine enter_forget [1] (loop_rec (fun (s : Int × Int × Int) => match s with | (p, q, i) => [.slice (some ⟨0, 0, none⟩) xs.length c, wild, .pointer (some ⟨1, 0, none⟩), ii 0, ii p, ii q, ii i, wild, wild, wild, wild, wild, wild, wild, wild, wild, wild, wild, wild, wild, wild, wild, wild, wild, wild, wild, wild, wild, wild, wild, wild, wild, wild, wild, wild, wild, wild]) (fun (s : Int × Int × Int) => match s with | (p, q, i) => [(il xs ++ sp, none), ([ii 0, ii 0, ii 0, ii 0], some t_impl_Corner)]) (fun (s : Int × Int × Int) => match s with | (p, q, i) => (i + 1).toNat) (fun (s : Int × Int × Int) => match s with | (p, q, i) => OfI xs i p q) (1, 0, w64 ((xs.length : Int) - 1)) (OfI.start xs hn) ?_) (tmR_rfl rfl rfl) ⟨⟨⟨_, rfl, .plain rfl rfl (Row.all h1)⟩⟩, ⟨⟨_, rfl, .plain rfl rfl (by first | exact Plain.of rfl | exact Row.all (by assumption))⟩⟩, trivial⟩ rfl rfl; rintro fuel_ ⟨p, q, i⟩ hI IH; replace hI : OfI xs i p q := hI; conv => whnf)
    | exact next_forget [1] (IH (w64 (w64 (xs.getD i.toNat 0 * p) + q), p, w64 (i - 1)) (by exact hI.next hn (by assumption) (by assumption)) (by exact hI.mu hn (by assumption))) (tmR_rfl rfl rfl) ⟨⟨⟨_, rfl, .plain rfl rfl (Row.all h1)⟩⟩, ⟨⟨_, rfl, .plain rfl rfl (by first | exact Plain.of rfl | exact Row.all (by assumption))⟩⟩, trivial⟩ rfl rfl
    | (refine br_in (by have := of_decide_eq_true (show decide (i ≥ 0) = true by assumption); omega) (by have := hI.hi; omega) ?_; conv => whnf)
    | (refine force_eq (take_il (xs := xs) (i := (i).toNat) ?_ ?_) ?_; (focus (simp only [Nat.mul_one, Nat.zero_add]; done)); (focus (have := hI.hi; have := of_decide_eq_true (show decide (i ≥ 0) = true by assumption); omega; done)); conv => whnf)
    | (have e_ := hI.stop (by assumption) (by assumption); rw [hg] at e_; exfalso; cases e_; done)
    | (have e_ := hI.fin (by assumption); rw [hg] at e_; obtain ⟨rfl, rfl⟩ := Prod.mk.inj (Option.some.inj e_); exact absurd hp (ne_of_dec (by assumption)))
    | (have e_ := hI.fin (by assumption); rw [hg] at e_; obtain ⟨rfl, rfl⟩ := Prod.mk.inj (Option.some.inj e_); exact out_forget [] ⟨rfl, rfl⟩ rfl (okB2_spec rfl) ⟨⟨⟨_, rfl, .plain rfl rfl (Row.all h1)⟩⟩, trivial⟩ rfl rfl)
    | (refine StoreK.mk rfl ?_; conv => whnf)
    | exact join_same
    | exact (by assumption : (_ : Bool) = (_ : Bool))
    | (refine br_true (by assumption) ?_; conv => whnf)
    | (refine br_false (by assumption) ?_; conv => whnf)
    | (refine br_not ?_; conv => whnf)
    | (refine br_code ?_; conv => whnf)
    | (with_reducible refine br_and ?_; conv => whnf)
    | (with_reducible refine br_or ?_; conv => whnf)
    | (refine br_eq2 ?_; conv => whnf)
    | (refine c_spec_l01Fits.call ?_; conv => whnf)
    | (refine c_spec_l01Fits.quiet ?_; conv => whnf)
    | (refine draw_auto (by decide +kernel) ?_; conv => whnf)
    | (refine draw_asg (by decide +kernel) ?_; conv => whnf)
    | (refine draw_st (by decide +kernel) ?_; conv => whnf)
    | (refine draw_call (by decide +kernel) ?_; conv => whnf)
    | (refine enter_same (loop_n 12 ?_); conv => whnf)
    | (refine next_same ?_; conv => whnf)
    | (refine mapK_row (by assumption) ?_; conv => whnf)
    | (refine mapK_plain (Plain.of rfl) ?_; conv => whnf)
    | (refine mapK_lit ?_; conv => whnf)
    | (refine br_split (fun _ => ?_) (fun _ => ?_) <;> conv => whnf)
    | exact (rfl : (_ : Value) = _)
    | (simp only [*]; exact (rfl : (_ : Value) = _))
    | (simp [*]; done))

theorem c_l02OfList_big {xs : List Int} {sp : List Value} {n c : Nat}  (h1 : Row (il xs) sp n c 1) (hn : n ≤ 1048576) (hg : ofGo xs.reverse 1 0 = none) : CallOK Try.prog n_spec_l02OfList [.slice (some ⟨0, 0, none⟩) n c] [(il xs ++ sp, none)] (fun v m_ => v = t2 (q4 0 0 0 0) (ii 3) ∧ m_ = [(il xs ++ sp, none)]) := by
  obtain rfl := row_il h1; refine callOK_ofF good fn_spec_l02OfList ?_
  conv => whnf
  all_goals (repeat' first
    | (refine enter_forget [1] (loop_rec (fun (s : Int × Int × Int) => match s with | (p, q, i) => [.slice (some ⟨0, 0, none⟩) xs.length c, wild, .pointer (some ⟨1, 0, none⟩), ii 0, ii p, ii q, ii i, wild, wild, wild, wild, wild, wild, wild, wild, wild, wild, wild, wild, wild, wild, wild, wild, wild, wild, wild, wild, wild, wild, wild, wild, wild, wild, wild, wild, wild, wild]) (fun (s : Int × Int × Int) => match s with | (p, q, i) => [(il xs ++ sp, none), ([ii 0, ii 0, ii 0, ii 0], some t_impl_Corner)]) (fun (s : Int × Int × Int) => match s with | (p, q, i) => (i + 1).toNat) (fun (s : Int × Int × Int) => match s with | (p, q, i) => OfI xs i p q) (1, 0, w64 ((xs.length : Int) - 1)) (OfI.start xs hn) ?_) (tmR_rfl rfl rfl) ⟨⟨⟨_, rfl, .plain rfl rfl (Row.all h1)⟩⟩, ⟨⟨_, rfl, .plain rfl rfl (by first | exact Plain.of rfl | exact Row.all (by assumption))⟩⟩, trivial⟩ rfl rfl; rintro fuel_ ⟨p, q, i⟩ hI IH; replace hI : OfI xs i p q := hI; conv => whnf)
    | exact next_forget [1] (IH (w64 (w64 (xs.getD i.toNat 0 * p) + q), p, w64 (i - 1)) (by exact hI.next hn (by assumption) (by assumption)) (by exact hI.mu hn (by assumption))) (tmR_rfl rfl rfl) ⟨⟨⟨_, rfl, .plain rfl rfl (Row.all h1)⟩⟩, ⟨⟨_, rfl, .plain rfl rfl (by first | exact Plain.of rfl | exact Row.all (by assumption))⟩⟩, trivial⟩ rfl rfl
    | (refine br_in (by have := of_decide_eq_true (show decide (i ≥ 0) = true by assumption); omega) (by have := hI.hi; omega) ?_; conv => whnf)
    | (refine force_eq (take_il (xs := xs) (i := (i).toNat) ?_ ?_) ?_; (focus (simp only [Nat.mul_one, Nat.zero_add]; done)); (focus (have := hI.hi; have := of_decide_eq_true (show decide (i ≥ 0) = true by assumption); omega; done)); conv => whnf)
    | (have e_ := hI.fin (by assumption); rw [hg] at e_; exfalso; cases e_; done)
    | exact out_forget [] ⟨rfl, rfl⟩ rfl (okB2_spec rfl) ⟨⟨⟨_, rfl, .plain rfl rfl (Row.all h1)⟩⟩, trivial⟩ rfl rfl
    | (refine StoreK.mk rfl ?_; conv => whnf)
    | exact join_same
    | exact (by assumption : (_ : Bool) = (_ : Bool))
    | (refine br_true (by assumption) ?_; conv => whnf)
    | (refine br_false (by assumption) ?_; conv => whnf)
    | (refine br_not ?_; conv => whnf)
    | (refine br_code ?_; conv => whnf)
    | (with_reducible refine br_and ?_; conv => whnf)
    | (with_reducible refine br_or ?_; conv => whnf)
    | (refine br_eq2 ?_; conv => whnf)
    | (refine c_spec_l01Fits.call ?_; conv => whnf)
    | (refine c_spec_l01Fits.quiet ?_; conv => whnf)
    | (refine draw_auto (by decide +kernel) ?_; conv => whnf)
    | (refine draw_asg (by decide +kernel) ?_; conv => whnf)
    | (refine draw_st (by decide +kernel) ?_; conv => whnf)
    | (refine draw_call (by decide +kernel) ?_; conv => whnf)
    | (refine enter_same (loop_n 12 ?_); conv => whnf)
    | (refine next_same ?_; conv => whnf)
    | (refine mapK_row (by assumption) ?_; conv => whnf)
    | (refine mapK_plain (Plain.of rfl) ?_; conv => whnf)
    | (refine mapK_lit ?_; conv => whnf)
    | (refine br_split (fun _ => ?_) (fun _ => ?_) <;> conv => whnf)
    | exact (rfl : (_ : Value) = _)
    | (simp only [*]; exact (rfl : (_ : Value) = _))
    | (simp [*]; done))

end Go.Proofs.Ytlkbfpklhncfbaa
