/-
  Several texts of this work in one (a claim holds at most 60 files).
  Conditions: as each contract states.
-/
import Derived.Test.YtjakdmfodnpkkaaKM1
import Derived.Test.YtjakdmfodnpkkaaKM3
section
/-
  Contracts of functions of the program (printed by a program of this work; Lean checks each).
  Conditions: as each contract states.
-/
namespace Go.Proofs.Ytjakdmfodnpkkaa
open Go.Ev Go.RowKit
set_option maxRecDepth 100000
set_option linter.unusedVariables false
set_option linter.unusedSimpArgs false



end Go.Proofs.Ytjakdmfodnpkkaa
end

section
/-
  Contracts of functions of the program (printed by a program of this work; Lean checks each).
  Conditions: as each contract states.
-/
namespace Go.Proofs.Ytjakdmfodnpkkaa
open Go.Ev Go.RowKit
set_option maxRecDepth 100000
set_option linter.unusedVariables false
set_option linter.unusedSimpArgs false



end Go.Proofs.Ytjakdmfodnpkkaa
end

section
/-
  Contracts of functions of the program (printed by a program of this work; Lean checks each).
  Conditions: as each contract states.
-/
namespace Go.Proofs.Ytjakdmfodnpkkaa
open Go.Ev Go.RowKit
set_option maxRecDepth 100000
set_option linter.unusedVariables false
set_option linter.unusedSimpArgs false

def ratF (p q : Int) : Bool := isCoordF p && inF q 1 1000000

theorem ratF_ok {a b : Int} (h : ratF a b = true) : ExpOk a b := by
  simp only [ratF, isCoordF, inF, Bool.and_eq_true, decide_eq_true_eq] at h
  exact ⟨by omega, by omega, by omega, by omega⟩

end Go.Proofs.Ytjakdmfodnpkkaa
end

section
/-
  Contracts of functions of the program (printed by a program of this work; Lean checks each).
  Conditions: as each contract states.
-/
namespace Go.Proofs.Ytjakdmfodnpkkaa
open Go.Ev Go.RowKit
set_option maxRecDepth 100000
set_option linter.unusedVariables false
set_option linter.unusedSimpArgs false

theorem ang_ok {a b c d : Int} (h : isAngF a b c d = true) : AngOk a b c d := by
  simp only [isAngF, Bool.and_eq_true, decide_eq_true_eq] at h
  exact ⟨h.1.1.1.1, h.1.1.1.2, h.1.1.2, h.1.2, h.2⟩
theorem ang_no {a b c d : Int} (h : AngOk a b c d) : isAngF a b c d = true := by
  simp only [isAngF, Bool.and_eq_true, decide_eq_true_eq]
  exact ⟨⟨⟨⟨h.ca, h.cb⟩, h.pa⟩, h.pb⟩, h.w⟩

attribute [local irreducible] isPtF detF floorF plusF

set_option maxHeartbeats 3000000 in
theorem c_sailOf_ok {a b c d : Int} {P : List (Int × Int)} {T : List Int} (h : AngOk a b c d) (ht : sailT a b c d 0 = some (P, T)) : CallOK Try.prog n_impl_sailOf [pt a b, pt c d] [] (fun v m_ => ∃ n c_ j k sp sq, Row (pl P) sp n c_ 2 ∧ Row (il (T ++ [0])) sq j k 1 ∧ n ≤ 2000 ∧ v = t2 (.pointer (some ⟨0, 0, none⟩)) (ii 0) ∧ m_ = [([.slice (some ⟨1, 0, none⟩) n c_, .slice (some ⟨2, 0, none⟩) j k], some t_impl_sail), (pl P ++ sp, some t_impl_Point), (il (T ++ [0]) ++ sq, some 2)]) := by
  refine callOK_ofF good fn_impl_sailOf ?_
  conv => whnf
  all_goals (repeat' first
    | exact h.ca
    | exact h.cb
    | exact decide_eq_false (by have := h.w; omega)
    | (refine enter_forget [0, 1, 3, 7, 6, 4, 5] (loop_rec (fun (s : Int × Int × Int × Int × (List Value) × (List Value) × Nat × Nat × (List Value) × (List Value) × Nat × Nat × (List (Int × Int)) × (List Int)) => match s with | (u, v, x, y, L, sp, n, e, M, sq, k, f, Q, U) => [pt a b, pt c d, .pointer (some ⟨0, 0, none⟩), .pointer (some ⟨1, 0, none⟩), wild, wild, wild, .pointer (some ⟨2, 0, none⟩), .pointer (some ⟨4, 0, none⟩), .pointer (some ⟨3, 0, none⟩), wild, wild, wild, wild, wild, wild, wild, wild, wild, wild, wild, wild, wild, wild, wild, wild, wild, wild, wild, wild, wild, wild, wild, wild, wild, wild, wild, wild, wild, wild, wild, wild, wild, wild, wild, wild, wild, wild, wild, wild, wild, wild, wild, wild, wild, wild, wild, wild, wild, wild, wild, wild, wild, wild, wild, wild, wild, wild, wild, wild, wild, wild, wild, wild, wild, wild, wild, wild, wild, wild, wild, wild, wild, wild, wild, wild, wild, wild, wild, wild, wild]) (fun (s : Int × Int × Int × Int × (List Value) × (List Value) × Nat × Nat × (List Value) × (List Value) × Nat × Nat × (List (Int × Int)) × (List Int)) => match s with | (u, v, x, y, L, sp, n, e, M, sq, k, f, Q, U) => [([ii a, ii b], some t_impl_Point), ([ii c, ii d], some t_impl_Point), ([ii x, ii y], some t_impl_Point), ([ii u, ii v], some t_impl_Point), ([.slice (some ⟨5, 0, none⟩) n e, .slice (some ⟨6, 0, none⟩) k f], some t_impl_sail), (L ++ sp, some t_impl_Point), (M ++ sq, some 2)]) (fun (s : Int × Int × Int × Int × (List Value) × (List Value) × Nat × Nat × (List Value) × (List Value) × Nat × Nat × (List (Int × Int)) × (List Int)) => match s with | (u, v, x, y, L, sp, n, e, M, sq, k, f, Q, U) => 2001 - n) (fun (s : Int × Int × Int × Int × (List Value) × (List Value) × Nat × Nat × (List Value) × (List Value) × Nat × Nat × (List (Int × Int)) × (List Int)) => match s with | (u, v, x, y, L, sp, n, e, M, sq, k, f, Q, U) => SailS a b c d (sailT a b c d 0) u v x y L sp n e M sq k f Q U) (_, _, _, _, [ii a, ii b], [], 1, 1, [ii 0], [], 1, 1, _, _) (by exact SailS.start (t0 := 0) h) ?_) (tmR_rfl rfl rfl) ⟨⟨⟨_, rfl, .plain rfl rfl (by first | exact Plain.of rfl | exact Row.all (by assumption))⟩⟩, ⟨⟨_, rfl, .plain rfl rfl (by first | exact Plain.of rfl | exact Row.all (by assumption))⟩⟩, ⟨⟨_, rfl, .plain rfl rfl (by first | exact Plain.of rfl | exact Row.all (by assumption))⟩⟩, ⟨⟨_, rfl, .plain rfl rfl (by first | exact Plain.of rfl | exact Row.all (by assumption))⟩⟩, ⟨⟨_, rfl, .lit rfl rfl (fun v hv => okB0_spec (allL_spec rfl v hv))⟩⟩, ⟨⟨_, rfl, .plain rfl rfl (Plain.of rfl)⟩⟩, ⟨⟨_, rfl, .plain rfl rfl (Plain.of rfl)⟩⟩, trivial⟩ rfl rfl; rintro fuel_ ⟨u, v, x, y, L, sp, n, e, M, sq, k, f, Q, U⟩ hI IH; replace hI : SailS a b c d (sailT a b c d 0) u v x y L sp n e M sq k f Q U := hI; conv => whnf)
    | exact next_forget [0, 1, 2, _, 4, _, _] (IH (_, _, _, _, _, _, _, _, _, _, _, _, Q ++ [(x, y)], U ++ [turnP c d u v x y]) (by exact hI.next' (hI.ne h.gcd (by first | exact fun hh => of_decide_eq_false (show decide (y = d) = false by assumption) hh.2 | exact fun hh => of_decide_eq_false (show decide (x = c) = false by assumption) hh.1)) (hI.fits ht) ra_ rb_) (by show 2001 - (n + 1) < 2001 - n; have := hI.n2; omega)) (tmR_rfl rfl rfl) ⟨⟨⟨_, rfl, .plain rfl rfl (by first | exact Plain.of rfl | exact Row.all (by assumption))⟩⟩, ⟨⟨_, rfl, .plain rfl rfl (by first | exact Plain.of rfl | exact Row.all (by assumption))⟩⟩, ⟨⟨_, rfl, .plain rfl rfl (by first | exact Plain.of rfl | exact Row.all (by assumption))⟩⟩, ⟨⟨_, rfl, .plain rfl rfl (by first | exact Plain.of rfl | exact Row.all (by assumption))⟩⟩, ⟨⟨_, rfl, .lit rfl rfl (fun v hv => okB0_spec (allL_spec rfl v hv))⟩⟩, ⟨⟨_, rfl, .plain rfl rfl (Row.all ra_)⟩⟩, ⟨⟨_, rfl, .plain rfl rfl (Row.all rb_)⟩⟩, trivial⟩ rfl rfl
    | (show AppK _ _ _ 2 _ _ _ _ _; refine app_lit hI.row rfl rfl rfl (Plain.of rfl) rfl rfl (by decide) (by have := hI.n2; show (_ + 1) * 16 ≤ _; omega) (by have := hI.n2; omega) (fun hle_ spa_ ra_ => ?_) (fun hle_ ca_ spa_ ra_ => ?_) <;> conv => whnf)
    | (show AppK _ _ _ 1 _ _ _ _ _; refine app_lit hI.row2 rfl rfl rfl (Plain.of rfl) rfl rfl (by decide) (by have := hI.n2; have := hI.kn; show (_ + 1) * 8 ≤ _; omega) (by have := hI.n2; have := hI.kn; omega) (fun hle_ spb_ rb_ => ?_) (fun hle_ cb_ spb_ rb_ => ?_) <;> conv => whnf)
    | (refine draw_pt (.take 0 (.take 1 (.take 2 (.take 3 (.join [4, 5, 6] (.duo 4 (.solo 5 (.solo 6 .done)) 5 (.duo 4 (.solo 6 .done) 6 (.solo 4 .done))) (.solo 7 (.take 8 (.take 9 (.solo 10 .done))))))))) (by decide +kernel) ?_; conv => whnf)
    | (refine And.intro ?_ ?_ <;> conv => whnf)
    | (refine br_true (b := isPtF x y) hI.inv.pt ?_; conv => whnf)
    | exact decide_eq_false (by rw [hI.inv.detP]; exact (hI.ne h.gcd (by first | exact fun hh => of_decide_eq_false (show decide (y = d) = false by assumption) hh.2 | exact fun hh => of_decide_eq_false (show decide (x = c) = false by assumption) hh.1)))
    | (refine br_false (decide_eq_false (by have := hI.fits ht; omega)) ?_; conv => whnf)
    | (obtain ⟨e1_, e2_⟩ := hI.fin ht ((hI.inv.last h.gcd).2 ⟨of_decide_eq_true (by assumption), of_decide_eq_true (by assumption)⟩) 0; exact out_forget [_, _, _] ⟨_, _, _, _, _, _, e1_ ▸ ra_, e2_ ▸ rb_, (by have := hI.n2; have := hI.fits ht; omega), rfl, rfl⟩ rfl (okB2_spec rfl) ⟨⟨⟨_, rfl, .lit rfl rfl (fun v hv => okB0_spec (allL_spec rfl v hv))⟩⟩, ⟨⟨_, rfl, .plain (congrArg (· ++ _) e1_) rfl (Row.all (e1_ ▸ ra_))⟩⟩, ⟨⟨_, rfl, .plain (congrArg (· ++ _) e2_) rfl (Row.all (e2_ ▸ rb_))⟩⟩, trivial⟩ rfl rfl)
    | (refine StoreK.mk rfl ?_; conv => whnf)
    | exact join_same
    | exact (by assumption : (_ : Bool) = (_ : Bool))
    | (refine br_true (by assumption) ?_; conv => whnf)
    | (refine br_false (by assumption) ?_; conv => whnf)
    | (refine br_not ?_; conv => whnf)
    | (refine br_code ?_; conv => whnf)
    | (with_reducible refine br_and ?_; conv => whnf)
    | (with_reducible refine br_or ?_; conv => whnf)
    | (refine br_eq2 ?_; conv => whnf)
    | (refine (c_impl_Point_mate ?_).call ?_ <;> conv => whnf)
    | (refine (c_impl_Point_mate ?_).quiet ?_ <;> conv => whnf)
    | (refine c_impl_det.call ?_; conv => whnf)
    | (refine c_impl_det.quiet ?_; conv => whnf)
    | (refine (c_impl_floor ?_).call ?_ <;> conv => whnf)
    | (refine (c_impl_floor ?_).quiet ?_ <;> conv => whnf)
    | (refine c_impl_Point_plus.call ?_; conv => whnf)
    | (refine c_impl_Point_plus.quiet ?_; conv => whnf)
    | (refine c_impl_IsPoint.call ?_; conv => whnf)
    | (refine c_impl_IsPoint.quiet ?_; conv => whnf)
    | (refine c_impl_Point_less.call ?_; conv => whnf)
    | (refine c_impl_Point_less.quiet ?_; conv => whnf)
    | (refine draw_auto (by decide +kernel) ?_; conv => whnf)
    | (refine draw_asg (by decide +kernel) ?_; conv => whnf)
    | (refine draw_st (by decide +kernel) ?_; conv => whnf)
    | (refine draw_call (by decide +kernel) ?_; conv => whnf)
    | (refine enter_same (loop_n 12 ?_); conv => whnf)
    | (refine next_same ?_; conv => whnf)
    | (refine mapK_row (by assumption) ?_; conv => whnf)
    | (refine mapK_plain (Plain.of rfl) ?_; conv => whnf)
    | (refine mapK_lit ?_; conv => whnf)
    | (refine br_split (fun _ => ?_) (fun _ => ?_) <;> conv => whnf)
    | exact (rfl : (_ : Value) = _)
    | (simp only [*]; exact (rfl : (_ : Value) = _))
    | (simp [*]; done))

set_option maxHeartbeats 3000000 in
theorem c_sailOf_no {a b c d : Int} (h : AngOk a b c d) (ht : sailT a b c d 0 = none) : CallOK Try.prog n_impl_sailOf [pt a b, pt c d] [] (fun v m_ => v = t2 (.pointer none) (ii 3) ∧ m_ = []) := by
  refine callOK_ofF good fn_impl_sailOf ?_
  conv => whnf
  all_goals (repeat' first
    | exact h.ca
    | exact h.cb
    | exact decide_eq_false (by have := h.w; omega)
    | (refine enter_forget [0, 1, 3, 7, 6, 4, 5] (loop_rec (fun (s : Int × Int × Int × Int × (List Value) × (List Value) × Nat × Nat × (List Value) × (List Value) × Nat × Nat × (List (Int × Int)) × (List Int)) => match s with | (u, v, x, y, L, sp, n, e, M, sq, k, f, Q, U) => [pt a b, pt c d, .pointer (some ⟨0, 0, none⟩), .pointer (some ⟨1, 0, none⟩), wild, wild, wild, .pointer (some ⟨2, 0, none⟩), .pointer (some ⟨4, 0, none⟩), .pointer (some ⟨3, 0, none⟩), wild, wild, wild, wild, wild, wild, wild, wild, wild, wild, wild, wild, wild, wild, wild, wild, wild, wild, wild, wild, wild, wild, wild, wild, wild, wild, wild, wild, wild, wild, wild, wild, wild, wild, wild, wild, wild, wild, wild, wild, wild, wild, wild, wild, wild, wild, wild, wild, wild, wild, wild, wild, wild, wild, wild, wild, wild, wild, wild, wild, wild, wild, wild, wild, wild, wild, wild, wild, wild, wild, wild, wild, wild, wild, wild, wild, wild, wild, wild, wild, wild]) (fun (s : Int × Int × Int × Int × (List Value) × (List Value) × Nat × Nat × (List Value) × (List Value) × Nat × Nat × (List (Int × Int)) × (List Int)) => match s with | (u, v, x, y, L, sp, n, e, M, sq, k, f, Q, U) => [([ii a, ii b], some t_impl_Point), ([ii c, ii d], some t_impl_Point), ([ii x, ii y], some t_impl_Point), ([ii u, ii v], some t_impl_Point), ([.slice (some ⟨5, 0, none⟩) n e, .slice (some ⟨6, 0, none⟩) k f], some t_impl_sail), (L ++ sp, some t_impl_Point), (M ++ sq, some 2)]) (fun (s : Int × Int × Int × Int × (List Value) × (List Value) × Nat × Nat × (List Value) × (List Value) × Nat × Nat × (List (Int × Int)) × (List Int)) => match s with | (u, v, x, y, L, sp, n, e, M, sq, k, f, Q, U) => 2001 - n) (fun (s : Int × Int × Int × Int × (List Value) × (List Value) × Nat × Nat × (List Value) × (List Value) × Nat × Nat × (List (Int × Int)) × (List Int)) => match s with | (u, v, x, y, L, sp, n, e, M, sq, k, f, Q, U) => SailS a b c d (sailT a b c d 0) u v x y L sp n e M sq k f Q U) (_, _, _, _, [ii a, ii b], [], 1, 1, [ii 0], [], 1, 1, _, _) (by exact SailS.start (t0 := 0) h) ?_) (tmR_rfl rfl rfl) ⟨⟨⟨_, rfl, .plain rfl rfl (by first | exact Plain.of rfl | exact Row.all (by assumption))⟩⟩, ⟨⟨_, rfl, .plain rfl rfl (by first | exact Plain.of rfl | exact Row.all (by assumption))⟩⟩, ⟨⟨_, rfl, .plain rfl rfl (by first | exact Plain.of rfl | exact Row.all (by assumption))⟩⟩, ⟨⟨_, rfl, .plain rfl rfl (by first | exact Plain.of rfl | exact Row.all (by assumption))⟩⟩, ⟨⟨_, rfl, .lit rfl rfl (fun v hv => okB0_spec (allL_spec rfl v hv))⟩⟩, ⟨⟨_, rfl, .plain rfl rfl (Plain.of rfl)⟩⟩, ⟨⟨_, rfl, .plain rfl rfl (Plain.of rfl)⟩⟩, trivial⟩ rfl rfl; rintro fuel_ ⟨u, v, x, y, L, sp, n, e, M, sq, k, f, Q, U⟩ hI IH; replace hI : SailS a b c d (sailT a b c d 0) u v x y L sp n e M sq k f Q U := hI; conv => whnf)
    | exact next_forget [0, 1, 2, _, 4, _, _] (IH (_, _, _, _, _, _, _, _, _, _, _, _, Q ++ [(x, y)], U ++ [turnP c d u v x y]) (by exact hI.next' (hI.ne h.gcd (by first | exact fun hh => of_decide_eq_false (show decide (y = d) = false by assumption) hh.2 | exact fun hh => of_decide_eq_false (show decide (x = c) = false by assumption) hh.1)) (by have h9_ := of_decide_eq_false (show decide (((n + 1 : Nat) : Int) > 2000) = false by assumption); omega) ra_ rb_) (by show 2001 - (n + 1) < 2001 - n; have := hI.n2; omega)) (tmR_rfl rfl rfl) ⟨⟨⟨_, rfl, .plain rfl rfl (by first | exact Plain.of rfl | exact Row.all (by assumption))⟩⟩, ⟨⟨_, rfl, .plain rfl rfl (by first | exact Plain.of rfl | exact Row.all (by assumption))⟩⟩, ⟨⟨_, rfl, .plain rfl rfl (by first | exact Plain.of rfl | exact Row.all (by assumption))⟩⟩, ⟨⟨_, rfl, .plain rfl rfl (by first | exact Plain.of rfl | exact Row.all (by assumption))⟩⟩, ⟨⟨_, rfl, .lit rfl rfl (fun v hv => okB0_spec (allL_spec rfl v hv))⟩⟩, ⟨⟨_, rfl, .plain rfl rfl (Row.all ra_)⟩⟩, ⟨⟨_, rfl, .plain rfl rfl (Row.all rb_)⟩⟩, trivial⟩ rfl rfl
    | (show AppK _ _ _ 2 _ _ _ _ _; refine app_lit hI.row rfl rfl rfl (Plain.of rfl) rfl rfl (by decide) (by have := hI.n2; show (_ + 1) * 16 ≤ _; omega) (by have := hI.n2; omega) (fun hle_ spa_ ra_ => ?_) (fun hle_ ca_ spa_ ra_ => ?_) <;> conv => whnf)
    | (show AppK _ _ _ 1 _ _ _ _ _; refine app_lit hI.row2 rfl rfl rfl (Plain.of rfl) rfl rfl (by decide) (by have := hI.n2; have := hI.kn; show (_ + 1) * 8 ≤ _; omega) (by have := hI.n2; have := hI.kn; omega) (fun hle_ spb_ rb_ => ?_) (fun hle_ cb_ spb_ rb_ => ?_) <;> conv => whnf)
    | (refine draw_pt (.take 0 (.take 1 (.take 2 (.take 3 (.join [4, 5, 6] (.duo 4 (.solo 5 (.solo 6 .done)) 5 (.duo 4 (.solo 6 .done) 6 (.solo 4 .done))) (.solo 7 (.take 8 (.take 9 (.solo 10 .done))))))))) (by decide +kernel) ?_; conv => whnf)
    | (refine And.intro ?_ ?_ <;> conv => whnf)
    | (refine br_true (b := isPtF x y) hI.inv.pt ?_; conv => whnf)
    | exact decide_eq_false (by rw [hI.inv.detP]; exact (hI.ne h.gcd (by first | exact fun hh => of_decide_eq_false (show decide (y = d) = false by assumption) hh.2 | exact fun hh => of_decide_eq_false (show decide (x = c) = false by assumption) hh.1)))
    | exact out_forget [] ⟨rfl, rfl⟩ rfl (okB2_spec rfl) trivial rfl rfl
    | exact absurd (hI.last ((hI.inv.last h.gcd).2 ⟨of_decide_eq_true (by assumption), of_decide_eq_true (by assumption)⟩) (by have h9_ := of_decide_eq_false (show decide (((n + 1 : Nat) : Int) > 2000) = false by assumption); omega)) (by rw [ht]; exact fun hh => by cases hh)
    | (refine StoreK.mk rfl ?_; conv => whnf)
    | exact join_same
    | exact (by assumption : (_ : Bool) = (_ : Bool))
    | (refine br_true (by assumption) ?_; conv => whnf)
    | (refine br_false (by assumption) ?_; conv => whnf)
    | (refine br_not ?_; conv => whnf)
    | (refine br_code ?_; conv => whnf)
    | (with_reducible refine br_and ?_; conv => whnf)
    | (with_reducible refine br_or ?_; conv => whnf)
    | (refine br_eq2 ?_; conv => whnf)
    | (refine (c_impl_Point_mate ?_).call ?_ <;> conv => whnf)
    | (refine (c_impl_Point_mate ?_).quiet ?_ <;> conv => whnf)
    | (refine c_impl_det.call ?_; conv => whnf)
    | (refine c_impl_det.quiet ?_; conv => whnf)
    | (refine (c_impl_floor ?_).call ?_ <;> conv => whnf)
    | (refine (c_impl_floor ?_).quiet ?_ <;> conv => whnf)
    | (refine c_impl_Point_plus.call ?_; conv => whnf)
    | (refine c_impl_Point_plus.quiet ?_; conv => whnf)
    | (refine c_impl_IsPoint.call ?_; conv => whnf)
    | (refine c_impl_IsPoint.quiet ?_; conv => whnf)
    | (refine c_impl_Point_less.call ?_; conv => whnf)
    | (refine c_impl_Point_less.quiet ?_; conv => whnf)
    | (refine draw_auto (by decide +kernel) ?_; conv => whnf)
    | (refine draw_asg (by decide +kernel) ?_; conv => whnf)
    | (refine draw_st (by decide +kernel) ?_; conv => whnf)
    | (refine draw_call (by decide +kernel) ?_; conv => whnf)
    | (refine enter_same (loop_n 12 ?_); conv => whnf)
    | (refine next_same ?_; conv => whnf)
    | (refine mapK_row (by assumption) ?_; conv => whnf)
    | (refine mapK_plain (Plain.of rfl) ?_; conv => whnf)
    | (refine mapK_lit ?_; conv => whnf)
    | (refine br_split (fun _ => ?_) (fun _ => ?_) <;> conv => whnf)
    | exact (rfl : (_ : Value) = _)
    | (simp only [*]; exact (rfl : (_ : Value) = _))
    | (simp [*]; done))

end Go.Proofs.Ytjakdmfodnpkkaa
end

section
/-
  Contracts of functions of the program (printed by a program of this work; Lean checks each).
  Conditions: as each contract states.
-/
namespace Go.Proofs.Ytjakdmfodnpkkaa
open Go.Ev Go.RowKit
set_option maxRecDepth 100000
set_option linter.unusedVariables false
set_option linter.unusedSimpArgs false

set_option maxHeartbeats 3000000 in
theorem c_l03Sail_ok {a b c d : Int} {P : List (Int × Int)} {T : List Int} (h : AngOk a b c d) (ht : sailT a b c d 2 = some (P, T)) : CallOK Try.prog n_spec_l03Sail [pt a b, pt c d] [] (fun v m_ => ∃ n c_ j k sp sq, Row (pl P) sp n c_ 2 ∧ Row (il (T ++ [2])) sq j k 1 ∧ n ≤ 2000 ∧ v = .tuple #[.slice (some ⟨0, 0, none⟩) n c_, .slice (some ⟨1, 0, none⟩) j k, bb true] ∧ m_ = [(pl P ++ sp, some t_impl_Point), (il (T ++ [2]) ++ sq, some 2)]) := by
  refine callOK_ofF good fn_spec_l03Sail ?_
  conv => whnf
  all_goals (repeat' first
    | exact h.ca
    | exact h.cb
    | exact decide_eq_false (by have := h.w; omega)
    | (refine draw_pt (.take 3 (.join [0, 1, 2, 4, 5, 6, 7] (.quad 0 (.trio 1 (.duo 2 (.duo 4 (.duo 5 (.duo 6 (.solo 7 .done) 7 (.solo 6 .done)) 6 (.solo 5 (.solo 7 .done))) 6 (.solo 4 (.solo 5 (.solo 7 .done)))) 6 (.solo 2 (.solo 4 (.solo 5 (.solo 7 .done))))) 2 (.duo 1 (.duo 4 (.duo 5 (.duo 6 (.solo 7 .done) 7 (.solo 6 .done)) 6 (.solo 5 (.solo 7 .done))) 6 (.solo 4 (.solo 5 (.solo 7 .done)))) 6 (.solo 1 (.solo 4 (.solo 5 (.solo 7 .done))))) 6 (.duo 1 (.solo 2 (.solo 4 (.solo 5 (.solo 7 .done)))) 2 (.solo 1 (.solo 4 (.solo 5 (.solo 7 .done)))))) 1 (.trio 0 (.duo 2 (.duo 4 (.duo 5 (.duo 6 (.solo 7 .done) 7 (.solo 6 .done)) 6 (.solo 5 (.solo 7 .done))) 6 (.solo 4 (.solo 5 (.solo 7 .done)))) 6 (.solo 2 (.solo 4 (.solo 5 (.solo 7 .done))))) 2 (.trio 0 (.duo 4 (.duo 5 (.duo 6 (.solo 7 .done) 7 (.solo 6 .done)) 6 (.solo 5 (.solo 7 .done))) 6 (.solo 4 (.solo 5 (.solo 7 .done)))) 4 (.duo 0 (.duo 5 (.duo 6 (.solo 7 .done) 7 (.solo 6 .done)) 6 (.solo 5 (.solo 7 .done))) 6 (.solo 0 (.solo 5 (.solo 7 .done)))) 6 (.duo 0 (.solo 4 (.solo 5 (.solo 7 .done))) 4 (.solo 0 (.solo 5 (.solo 7 .done))))) 6 (.duo 0 (.solo 2 (.solo 4 (.solo 5 (.solo 7 .done)))) 2 (.duo 0 (.solo 4 (.solo 5 (.solo 7 .done))) 4 (.solo 0 (.solo 5 (.solo 7 .done)))))) 2 (.trio 0 (.duo 1 (.duo 4 (.duo 5 (.duo 6 (.solo 7 .done) 7 (.solo 6 .done)) 6 (.solo 5 (.solo 7 .done))) 6 (.solo 4 (.solo 5 (.solo 7 .done)))) 6 (.solo 1 (.solo 4 (.solo 5 (.solo 7 .done))))) 1 (.trio 0 (.duo 4 (.duo 5 (.duo 6 (.solo 7 .done) 7 (.solo 6 .done)) 6 (.solo 5 (.solo 7 .done))) 6 (.solo 4 (.solo 5 (.solo 7 .done)))) 4 (.duo 0 (.duo 5 (.duo 6 (.solo 7 .done) 7 (.solo 6 .done)) 6 (.solo 5 (.solo 7 .done))) 6 (.solo 0 (.solo 5 (.solo 7 .done)))) 6 (.duo 0 (.solo 4 (.solo 5 (.solo 7 .done))) 4 (.solo 0 (.solo 5 (.solo 7 .done))))) 6 (.duo 0 (.solo 1 (.solo 4 (.solo 5 (.solo 7 .done)))) 1 (.duo 0 (.solo 4 (.solo 5 (.solo 7 .done))) 4 (.solo 0 (.solo 5 (.solo 7 .done)))))) 6 (.trio 0 (.duo 1 (.solo 2 (.solo 4 (.solo 5 (.solo 7 .done)))) 2 (.solo 1 (.solo 4 (.solo 5 (.solo 7 .done))))) 1 (.duo 0 (.solo 2 (.solo 4 (.solo 5 (.solo 7 .done)))) 2 (.duo 0 (.solo 4 (.solo 5 (.solo 7 .done))) 4 (.solo 0 (.solo 5 (.solo 7 .done))))) 2 (.duo 0 (.solo 1 (.solo 4 (.solo 5 (.solo 7 .done)))) 1 (.duo 0 (.solo 4 (.solo 5 (.solo 7 .done))) 4 (.solo 0 (.solo 5 (.solo 7 .done))))))) (.solo 8 .done))) (by decide +kernel) ?_; conv => whnf)
    | exact join_same
    | exact join_forget [_, _] (tmR_rfl rfl rfl) ⟨⟨⟨_, rfl, .plain rfl rfl (by first | exact Plain.of rfl | exact Row.all (by assumption))⟩⟩, ⟨⟨_, rfl, .plain rfl rfl (by first | exact Plain.of rfl | exact Row.all (by assumption))⟩⟩, ⟨⟨_, rfl, .plain rfl rfl (by first | exact Plain.of rfl | exact Row.all (by assumption))⟩⟩, ⟨⟨_, rfl, .plain rfl rfl (by first | exact Plain.of rfl | exact Row.all (by assumption))⟩⟩, ⟨⟨_, rfl, .plain rfl rfl (by first | exact Plain.of rfl | exact Row.all (by assumption))⟩⟩, trivial⟩ rfl rfl
    | (refine enter_forget [0, 1, 3, 4] (loop_rec (fun (s : Int × Int × Int × Int × (List Value) × (List Value) × Nat × Nat × (List Value) × (List Value) × Nat × Nat × (List (Int × Int)) × (List Int)) => match s with | (u, v, x, y, L, sp, n, e, M, sq, k, f, Q, U) => [pt a b, pt c d, .pointer (some ⟨0, 0, none⟩), .pointer (some ⟨1, 0, none⟩), wild, wild, wild, wild, wild, wild, .slice (some ⟨2, 0, none⟩) n e, .slice (some ⟨3, 0, none⟩) k f, wild, wild, wild, wild, wild, wild, wild, wild, wild, wild, wild, wild, wild, wild, wild, wild, wild, wild, wild, wild, wild, wild, wild, wild, wild, wild, wild, wild, wild, wild, wild, wild, wild, wild, wild, wild, wild, wild, wild, wild, wild, wild, wild, wild, wild, wild, wild, wild, wild, wild, wild, wild, wild, wild, wild, wild, wild, wild, wild, wild, wild, wild, wild, wild, wild, wild, wild, wild, wild, wild, wild, wild, wild, wild, wild, wild, wild, wild, wild, wild, wild, wild]) (fun (s : Int × Int × Int × Int × (List Value) × (List Value) × Nat × Nat × (List Value) × (List Value) × Nat × Nat × (List (Int × Int)) × (List Int)) => match s with | (u, v, x, y, L, sp, n, e, M, sq, k, f, Q, U) => [([ii a, ii b], some t_impl_Point), ([ii c, ii d], some t_impl_Point), (L ++ sp, some t_impl_Point), (M ++ sq, some 2)]) (fun (s : Int × Int × Int × Int × (List Value) × (List Value) × Nat × Nat × (List Value) × (List Value) × Nat × Nat × (List (Int × Int)) × (List Int)) => match s with | (u, v, x, y, L, sp, n, e, M, sq, k, f, Q, U) => 2002 - n) (fun (s : Int × Int × Int × Int × (List Value) × (List Value) × Nat × Nat × (List Value) × (List Value) × Nat × Nat × (List (Int × Int)) × (List Int)) => match s with | (u, v, x, y, L, sp, n, e, M, sq, k, f, Q, U) => SailN a b c d (sailT a b c d 2) u v x y L sp n e M sq k f Q U) (_, _, _, _, _, [], 2, 2, [ii 2], [], 1, 1, _, _) (by exact SailN.start (t0 := 2) h) ?_) (tmR_rfl rfl rfl) ⟨⟨⟨_, rfl, .plain rfl rfl (by first | exact Plain.of rfl | exact Row.all (by assumption))⟩⟩, ⟨⟨_, rfl, .plain rfl rfl (by first | exact Plain.of rfl | exact Row.all (by assumption))⟩⟩, ⟨⟨_, rfl, .plain (List.append_nil _).symm rfl (Plain.of rfl)⟩⟩, ⟨⟨_, rfl, .plain rfl rfl (Plain.of rfl)⟩⟩, trivial⟩ rfl rfl; rintro fuel_ ⟨u, v, x, y, L, sp, n, e, M, sq, k, f, Q, U⟩ hI IH; replace hI : SailN a b c d (sailT a b c d 2) u v x y L sp n e M sq k f Q U := hI; conv => whnf)
    | exact next_forget [0, 1, _, _] (IH (_, _, _, _, _, _, _, _, _, _, _, _, Q ++ [(u, v)], U ++ [turnP c d u v x y]) (by exact hI.next (by have h8_ := of_decide_eq_false (show decide (detF x y c d = 0) = false by assumption); rw [hI.inv.detP] at h8_; exact h8_) (hI.fits ht) ra_ rb_) (by show 2002 - (n + 1) < 2002 - n; have := hI.n2; omega)) (tmR_rfl rfl rfl) ⟨⟨⟨_, rfl, .plain rfl rfl (by first | exact Plain.of rfl | exact Row.all (by assumption))⟩⟩, ⟨⟨_, rfl, .plain rfl rfl (by first | exact Plain.of rfl | exact Row.all (by assumption))⟩⟩, ⟨⟨_, rfl, .plain rfl rfl (Row.all ra_)⟩⟩, ⟨⟨_, rfl, .plain rfl rfl (Row.all rb_)⟩⟩, trivial⟩ rfl rfl
    | (show AppK _ _ _ 2 _ _ _ _ _; refine app_lit hI.row rfl rfl rfl (Plain.of rfl) rfl rfl (by decide) (by have := hI.n2; show (_ + 1) * 16 ≤ _; omega) (by have := hI.n2; omega) (fun hle_ spa_ ra_ => ?_) (fun hle_ ca_ spa_ ra_ => ?_) <;> conv => whnf)
    | (show AppK _ _ _ 1 _ _ _ _ _; refine app_lit hI.row2 rfl rfl rfl (Plain.of rfl) rfl rfl (by decide) (by have := hI.n2; have := hI.kn; show (_ + 1) * 8 ≤ _; omega) (by have := hI.n2; have := hI.kn; omega) (fun hle_ spb_ rb_ => ?_) (fun hle_ cb_ spb_ rb_ => ?_) <;> conv => whnf)
    | (refine br_in (by have := hI.pn; have := hI.n2; (try clear IH); (try simp only [w64_def] at *); omega) (by have := hI.pn; have := hI.n2; (try clear IH); (try simp only [w64_def] at *); omega) ?_; conv => whnf)
    | (refine force_eq (hI.at2 ?_) ?_; (focus (simp only [show Int.toNat 0 = 0 from rfl, show (w64 (0 + 1)) = 1 from rfl, show Int.toNat 1 = 1 from rfl, Nat.zero_mul, Nat.one_mul, Nat.mul_one, Nat.add_zero, Nat.zero_add]; done)); conv => whnf)
    | (refine force_eq (hI.at1 ?_) ?_; (focus (simp only [show Int.toNat 0 = 0 from rfl, show (w64 (0 + 1)) = 1 from rfl, show Int.toNat 1 = 1 from rfl, Nat.zero_mul, Nat.one_mul, Nat.mul_one, Nat.add_zero, Nat.zero_add]; done)); conv => whnf)
    | (refine force_eq (hI.at20 ?_) ?_; (focus (simp only [show Int.toNat 0 = 0 from rfl, show (w64 (0 + 1)) = 1 from rfl, show Int.toNat 1 = 1 from rfl, Nat.zero_mul, Nat.one_mul, Nat.mul_one, Nat.add_zero, Nat.zero_add]; done)); conv => whnf)
    | (refine force_eq (hI.at21 ?_) ?_; (focus (simp only [show Int.toNat 0 = 0 from rfl, show (w64 (0 + 1)) = 1 from rfl, show Int.toNat 1 = 1 from rfl, Nat.zero_mul, Nat.one_mul, Nat.mul_one, Nat.add_zero, Nat.zero_add]; done)); conv => whnf)
    | (refine And.intro ?_ ?_ <;> conv => whnf)
    | (refine br_false (decide_eq_false (by have := hI.fits ht; omega)) ?_; conv => whnf)
    | (obtain ⟨e1_, e2_⟩ := hI.fin ht (by have h8_ := of_decide_eq_true (show decide (detF x y c d = 0) = true by assumption); rw [hI.inv.detP] at h8_; exact h8_) 2; exact out_forget [_, _] ⟨_, _, _, _, _, _, e1_ ▸ hI.row, e2_ ▸ rb_, (by have := hI.fits ht; omega), rfl, rfl⟩ rfl (okB2_spec rfl) ⟨⟨⟨_, rfl, .plain (congrArg (· ++ _) e1_) rfl (Row.all (e1_ ▸ hI.row))⟩⟩, ⟨⟨_, rfl, .plain (congrArg (· ++ _) e2_) rfl (Row.all (e2_ ▸ rb_))⟩⟩, trivial⟩ rfl rfl)
    | (refine StoreK.mk rfl ?_; conv => whnf)
    | exact join_same
    | exact (by assumption : (_ : Bool) = (_ : Bool))
    | (refine br_true (by assumption) ?_; conv => whnf)
    | (refine br_false (by assumption) ?_; conv => whnf)
    | (refine br_not ?_; conv => whnf)
    | (refine br_code ?_; conv => whnf)
    | (with_reducible refine br_and ?_; conv => whnf)
    | (with_reducible refine br_or ?_; conv => whnf)
    | (refine br_eq2 ?_; conv => whnf)
    | (refine c_spec_l01Det.call ?_; conv => whnf)
    | (refine c_spec_l01Det.quiet ?_; conv => whnf)
    | (refine (c_spec_l01Base ?_).call ?_ <;> conv => whnf)
    | (refine (c_spec_l01Base ?_).quiet ?_ <;> conv => whnf)
    | (refine (c_spec_l01Floor ?_).call ?_ <;> conv => whnf)
    | (refine (c_spec_l01Floor ?_).quiet ?_ <;> conv => whnf)
    | (refine c_spec_l01Plus.call ?_; conv => whnf)
    | (refine c_spec_l01Plus.quiet ?_; conv => whnf)
    | (refine draw_auto (by decide +kernel) ?_; conv => whnf)
    | (refine draw_asg (by decide +kernel) ?_; conv => whnf)
    | (refine draw_st (by decide +kernel) ?_; conv => whnf)
    | (refine draw_call (by decide +kernel) ?_; conv => whnf)
    | (refine enter_same (loop_n 12 ?_); conv => whnf)
    | (refine next_same ?_; conv => whnf)
    | (refine mapK_row (by assumption) ?_; conv => whnf)
    | (refine mapK_plain (Plain.of rfl) ?_; conv => whnf)
    | (refine mapK_lit ?_; conv => whnf)
    | (refine br_split (fun _ => ?_) (fun _ => ?_) <;> conv => whnf)
    | exact (rfl : (_ : Value) = _)
    | (simp only [*]; exact (rfl : (_ : Value) = _))
    | (simp [*]; done))

set_option maxHeartbeats 3000000 in
theorem c_l03Sail_no {a b c d : Int} (h : AngOk a b c d) (ht : sailT a b c d 2 = none) : CallOK Try.prog n_spec_l03Sail [pt a b, pt c d] [] (fun v m_ => v = .tuple #[.slice none 0 0, .slice none 0 0, bb false] ∧ m_ = []) := by
  refine callOK_ofF good fn_spec_l03Sail ?_
  conv => whnf
  all_goals (repeat' first
    | exact h.ca
    | exact h.cb
    | exact decide_eq_false (by have := h.w; omega)
    | (refine draw_pt (.take 3 (.join [0, 1, 2, 4, 5, 6, 7] (.quad 0 (.trio 1 (.duo 2 (.duo 4 (.duo 5 (.duo 6 (.solo 7 .done) 7 (.solo 6 .done)) 6 (.solo 5 (.solo 7 .done))) 6 (.solo 4 (.solo 5 (.solo 7 .done)))) 6 (.solo 2 (.solo 4 (.solo 5 (.solo 7 .done))))) 2 (.duo 1 (.duo 4 (.duo 5 (.duo 6 (.solo 7 .done) 7 (.solo 6 .done)) 6 (.solo 5 (.solo 7 .done))) 6 (.solo 4 (.solo 5 (.solo 7 .done)))) 6 (.solo 1 (.solo 4 (.solo 5 (.solo 7 .done))))) 6 (.duo 1 (.solo 2 (.solo 4 (.solo 5 (.solo 7 .done)))) 2 (.solo 1 (.solo 4 (.solo 5 (.solo 7 .done)))))) 1 (.trio 0 (.duo 2 (.duo 4 (.duo 5 (.duo 6 (.solo 7 .done) 7 (.solo 6 .done)) 6 (.solo 5 (.solo 7 .done))) 6 (.solo 4 (.solo 5 (.solo 7 .done)))) 6 (.solo 2 (.solo 4 (.solo 5 (.solo 7 .done))))) 2 (.trio 0 (.duo 4 (.duo 5 (.duo 6 (.solo 7 .done) 7 (.solo 6 .done)) 6 (.solo 5 (.solo 7 .done))) 6 (.solo 4 (.solo 5 (.solo 7 .done)))) 4 (.duo 0 (.duo 5 (.duo 6 (.solo 7 .done) 7 (.solo 6 .done)) 6 (.solo 5 (.solo 7 .done))) 6 (.solo 0 (.solo 5 (.solo 7 .done)))) 6 (.duo 0 (.solo 4 (.solo 5 (.solo 7 .done))) 4 (.solo 0 (.solo 5 (.solo 7 .done))))) 6 (.duo 0 (.solo 2 (.solo 4 (.solo 5 (.solo 7 .done)))) 2 (.duo 0 (.solo 4 (.solo 5 (.solo 7 .done))) 4 (.solo 0 (.solo 5 (.solo 7 .done)))))) 2 (.trio 0 (.duo 1 (.duo 4 (.duo 5 (.duo 6 (.solo 7 .done) 7 (.solo 6 .done)) 6 (.solo 5 (.solo 7 .done))) 6 (.solo 4 (.solo 5 (.solo 7 .done)))) 6 (.solo 1 (.solo 4 (.solo 5 (.solo 7 .done))))) 1 (.trio 0 (.duo 4 (.duo 5 (.duo 6 (.solo 7 .done) 7 (.solo 6 .done)) 6 (.solo 5 (.solo 7 .done))) 6 (.solo 4 (.solo 5 (.solo 7 .done)))) 4 (.duo 0 (.duo 5 (.duo 6 (.solo 7 .done) 7 (.solo 6 .done)) 6 (.solo 5 (.solo 7 .done))) 6 (.solo 0 (.solo 5 (.solo 7 .done)))) 6 (.duo 0 (.solo 4 (.solo 5 (.solo 7 .done))) 4 (.solo 0 (.solo 5 (.solo 7 .done))))) 6 (.duo 0 (.solo 1 (.solo 4 (.solo 5 (.solo 7 .done)))) 1 (.duo 0 (.solo 4 (.solo 5 (.solo 7 .done))) 4 (.solo 0 (.solo 5 (.solo 7 .done)))))) 6 (.trio 0 (.duo 1 (.solo 2 (.solo 4 (.solo 5 (.solo 7 .done)))) 2 (.solo 1 (.solo 4 (.solo 5 (.solo 7 .done))))) 1 (.duo 0 (.solo 2 (.solo 4 (.solo 5 (.solo 7 .done)))) 2 (.duo 0 (.solo 4 (.solo 5 (.solo 7 .done))) 4 (.solo 0 (.solo 5 (.solo 7 .done))))) 2 (.duo 0 (.solo 1 (.solo 4 (.solo 5 (.solo 7 .done)))) 1 (.duo 0 (.solo 4 (.solo 5 (.solo 7 .done))) 4 (.solo 0 (.solo 5 (.solo 7 .done))))))) (.solo 8 .done))) (by decide +kernel) ?_; conv => whnf)
    | exact join_same
    | exact join_forget [_, _] (tmR_rfl rfl rfl) ⟨⟨⟨_, rfl, .plain rfl rfl (by first | exact Plain.of rfl | exact Row.all (by assumption))⟩⟩, ⟨⟨_, rfl, .plain rfl rfl (by first | exact Plain.of rfl | exact Row.all (by assumption))⟩⟩, ⟨⟨_, rfl, .plain rfl rfl (by first | exact Plain.of rfl | exact Row.all (by assumption))⟩⟩, ⟨⟨_, rfl, .plain rfl rfl (by first | exact Plain.of rfl | exact Row.all (by assumption))⟩⟩, ⟨⟨_, rfl, .plain rfl rfl (by first | exact Plain.of rfl | exact Row.all (by assumption))⟩⟩, trivial⟩ rfl rfl
    | (refine enter_forget [0, 1, 3, 4] (loop_rec (fun (s : Int × Int × Int × Int × (List Value) × (List Value) × Nat × Nat × (List Value) × (List Value) × Nat × Nat × (List (Int × Int)) × (List Int)) => match s with | (u, v, x, y, L, sp, n, e, M, sq, k, f, Q, U) => [pt a b, pt c d, .pointer (some ⟨0, 0, none⟩), .pointer (some ⟨1, 0, none⟩), wild, wild, wild, wild, wild, wild, .slice (some ⟨2, 0, none⟩) n e, .slice (some ⟨3, 0, none⟩) k f, wild, wild, wild, wild, wild, wild, wild, wild, wild, wild, wild, wild, wild, wild, wild, wild, wild, wild, wild, wild, wild, wild, wild, wild, wild, wild, wild, wild, wild, wild, wild, wild, wild, wild, wild, wild, wild, wild, wild, wild, wild, wild, wild, wild, wild, wild, wild, wild, wild, wild, wild, wild, wild, wild, wild, wild, wild, wild, wild, wild, wild, wild, wild, wild, wild, wild, wild, wild, wild, wild, wild, wild, wild, wild, wild, wild, wild, wild, wild, wild, wild, wild]) (fun (s : Int × Int × Int × Int × (List Value) × (List Value) × Nat × Nat × (List Value) × (List Value) × Nat × Nat × (List (Int × Int)) × (List Int)) => match s with | (u, v, x, y, L, sp, n, e, M, sq, k, f, Q, U) => [([ii a, ii b], some t_impl_Point), ([ii c, ii d], some t_impl_Point), (L ++ sp, some t_impl_Point), (M ++ sq, some 2)]) (fun (s : Int × Int × Int × Int × (List Value) × (List Value) × Nat × Nat × (List Value) × (List Value) × Nat × Nat × (List (Int × Int)) × (List Int)) => match s with | (u, v, x, y, L, sp, n, e, M, sq, k, f, Q, U) => 2002 - n) (fun (s : Int × Int × Int × Int × (List Value) × (List Value) × Nat × Nat × (List Value) × (List Value) × Nat × Nat × (List (Int × Int)) × (List Int)) => match s with | (u, v, x, y, L, sp, n, e, M, sq, k, f, Q, U) => SailN a b c d (sailT a b c d 2) u v x y L sp n e M sq k f Q U) (_, _, _, _, _, [], 2, 2, [ii 2], [], 1, 1, _, _) (by exact SailN.start (t0 := 2) h) ?_) (tmR_rfl rfl rfl) ⟨⟨⟨_, rfl, .plain rfl rfl (by first | exact Plain.of rfl | exact Row.all (by assumption))⟩⟩, ⟨⟨_, rfl, .plain rfl rfl (by first | exact Plain.of rfl | exact Row.all (by assumption))⟩⟩, ⟨⟨_, rfl, .plain (List.append_nil _).symm rfl (Plain.of rfl)⟩⟩, ⟨⟨_, rfl, .plain rfl rfl (Plain.of rfl)⟩⟩, trivial⟩ rfl rfl; rintro fuel_ ⟨u, v, x, y, L, sp, n, e, M, sq, k, f, Q, U⟩ hI IH; replace hI : SailN a b c d (sailT a b c d 2) u v x y L sp n e M sq k f Q U := hI; conv => whnf)
    | exact next_forget [0, 1, _, _] (IH (_, _, _, _, _, _, _, _, _, _, _, _, Q ++ [(u, v)], U ++ [turnP c d u v x y]) (by exact hI.next (by have h8_ := of_decide_eq_false (show decide (detF x y c d = 0) = false by assumption); rw [hI.inv.detP] at h8_; exact h8_) (by have h9_ := of_decide_eq_false (show decide ((n : Int) > 2000) = false by assumption); omega) ra_ rb_) (by show 2002 - (n + 1) < 2002 - n; have := hI.n2; omega)) (tmR_rfl rfl rfl) ⟨⟨⟨_, rfl, .plain rfl rfl (by first | exact Plain.of rfl | exact Row.all (by assumption))⟩⟩, ⟨⟨_, rfl, .plain rfl rfl (by first | exact Plain.of rfl | exact Row.all (by assumption))⟩⟩, ⟨⟨_, rfl, .plain rfl rfl (Row.all ra_)⟩⟩, ⟨⟨_, rfl, .plain rfl rfl (Row.all rb_)⟩⟩, trivial⟩ rfl rfl
    | (show AppK _ _ _ 2 _ _ _ _ _; refine app_lit hI.row rfl rfl rfl (Plain.of rfl) rfl rfl (by decide) (by have := hI.n2; show (_ + 1) * 16 ≤ _; omega) (by have := hI.n2; omega) (fun hle_ spa_ ra_ => ?_) (fun hle_ ca_ spa_ ra_ => ?_) <;> conv => whnf)
    | (show AppK _ _ _ 1 _ _ _ _ _; refine app_lit hI.row2 rfl rfl rfl (Plain.of rfl) rfl rfl (by decide) (by have := hI.n2; have := hI.kn; show (_ + 1) * 8 ≤ _; omega) (by have := hI.n2; have := hI.kn; omega) (fun hle_ spb_ rb_ => ?_) (fun hle_ cb_ spb_ rb_ => ?_) <;> conv => whnf)
    | (refine br_in (by have := hI.pn; have := hI.n2; (try clear IH); (try simp only [w64_def] at *); omega) (by have := hI.pn; have := hI.n2; (try clear IH); (try simp only [w64_def] at *); omega) ?_; conv => whnf)
    | (refine force_eq (hI.at2 ?_) ?_; (focus (simp only [show Int.toNat 0 = 0 from rfl, show (w64 (0 + 1)) = 1 from rfl, show Int.toNat 1 = 1 from rfl, Nat.zero_mul, Nat.one_mul, Nat.mul_one, Nat.add_zero, Nat.zero_add]; done)); conv => whnf)
    | (refine force_eq (hI.at1 ?_) ?_; (focus (simp only [show Int.toNat 0 = 0 from rfl, show (w64 (0 + 1)) = 1 from rfl, show Int.toNat 1 = 1 from rfl, Nat.zero_mul, Nat.one_mul, Nat.mul_one, Nat.add_zero, Nat.zero_add]; done)); conv => whnf)
    | (refine force_eq (hI.at20 ?_) ?_; (focus (simp only [show Int.toNat 0 = 0 from rfl, show (w64 (0 + 1)) = 1 from rfl, show Int.toNat 1 = 1 from rfl, Nat.zero_mul, Nat.one_mul, Nat.mul_one, Nat.add_zero, Nat.zero_add]; done)); conv => whnf)
    | (refine force_eq (hI.at21 ?_) ?_; (focus (simp only [show Int.toNat 0 = 0 from rfl, show (w64 (0 + 1)) = 1 from rfl, show Int.toNat 1 = 1 from rfl, Nat.zero_mul, Nat.one_mul, Nat.mul_one, Nat.add_zero, Nat.zero_add]; done)); conv => whnf)
    | (refine And.intro ?_ ?_ <;> conv => whnf)
    | exact out_forget [] ⟨rfl, rfl⟩ rfl (okB2_spec rfl) trivial rfl rfl
    | exact absurd ht (hI.some (by have h8_ := of_decide_eq_true (show decide (detF x y c d = 0) = true by assumption); rw [hI.inv.detP] at h8_; exact h8_) (by have h9_ := of_decide_eq_false (show decide ((n : Int) > 2000) = false by assumption); omega))
    | (refine StoreK.mk rfl ?_; conv => whnf)
    | exact join_same
    | exact (by assumption : (_ : Bool) = (_ : Bool))
    | (refine br_true (by assumption) ?_; conv => whnf)
    | (refine br_false (by assumption) ?_; conv => whnf)
    | (refine br_not ?_; conv => whnf)
    | (refine br_code ?_; conv => whnf)
    | (with_reducible refine br_and ?_; conv => whnf)
    | (with_reducible refine br_or ?_; conv => whnf)
    | (refine br_eq2 ?_; conv => whnf)
    | (refine c_spec_l01Det.call ?_; conv => whnf)
    | (refine c_spec_l01Det.quiet ?_; conv => whnf)
    | (refine (c_spec_l01Base ?_).call ?_ <;> conv => whnf)
    | (refine (c_spec_l01Base ?_).quiet ?_ <;> conv => whnf)
    | (refine (c_spec_l01Floor ?_).call ?_ <;> conv => whnf)
    | (refine (c_spec_l01Floor ?_).quiet ?_ <;> conv => whnf)
    | (refine c_spec_l01Plus.call ?_; conv => whnf)
    | (refine c_spec_l01Plus.quiet ?_; conv => whnf)
    | (refine draw_auto (by decide +kernel) ?_; conv => whnf)
    | (refine draw_asg (by decide +kernel) ?_; conv => whnf)
    | (refine draw_st (by decide +kernel) ?_; conv => whnf)
    | (refine draw_call (by decide +kernel) ?_; conv => whnf)
    | (refine enter_same (loop_n 12 ?_); conv => whnf)
    | (refine next_same ?_; conv => whnf)
    | (refine mapK_row (by assumption) ?_; conv => whnf)
    | (refine mapK_plain (Plain.of rfl) ?_; conv => whnf)
    | (refine mapK_lit ?_; conv => whnf)
    | (refine br_split (fun _ => ?_) (fun _ => ?_) <;> conv => whnf)
    | exact (rfl : (_ : Value) = _)
    | (simp only [*]; exact (rfl : (_ : Value) = _))
    | (simp [*]; done))

end Go.Proofs.Ytjakdmfodnpkkaa
end

section
/-
  Contracts of functions of the program (printed by a program of this work; Lean checks each).
  Conditions: as each contract states.
-/
namespace Go.Proofs.Ytjakdmfodnpkkaa
open Go.Ev Go.RowKit
set_option maxRecDepth 100000
set_option linter.unusedVariables false
set_option linter.unusedSimpArgs false

theorem c_angleSail_ok {a b c d : Int} {P : List (Int × Int)} {T : List Int} (h : AngOk a b c d) (ht : sailT a b c d 0 = some (P, T)) : CallOK Try.prog n_impl_angleSail [pt a b, pt c d] [] (fun v m_ => ∃ n c_ j k sp sq, Row (pl P) sp n c_ 2 ∧ Row (il (T ++ [0])) sq j k 1 ∧ n ≤ 2000 ∧ v = t2 (.pointer (some ⟨0, 0, none⟩)) (ii 0) ∧ m_ = [([.slice (some ⟨1, 0, none⟩) n c_, .slice (some ⟨2, 0, none⟩) j k], some t_impl_sail), (pl P ++ sp, some t_impl_Point), (il (T ++ [0]) ++ sq, some 2)]) := by
  have ha_ := ang_no h; refine callOK_ofF good fn_impl_angleSail ?_
  conv => whnf
  all_goals (repeat' first
    | exact out_forget [_, _, _] ⟨_, _, _, _, _, _, hrow_, hrow2_, hn_, rfl, rfl⟩ rfl (okB2_spec rfl) ⟨⟨⟨_, rfl, .lit rfl rfl (fun v hv => okB0_spec (allL_spec rfl v hv))⟩⟩, ⟨⟨_, rfl, .plain rfl rfl (Row.all hrow_)⟩⟩, ⟨⟨_, rfl, .plain rfl rfl (Row.all hrow2_)⟩⟩, trivial⟩ rfl rfl
    | (refine StoreK.mk rfl ?_; conv => whnf)
    | exact join_same
    | exact (by assumption : (_ : Bool) = (_ : Bool))
    | (refine br_true (by assumption) ?_; conv => whnf)
    | (refine br_false (by assumption) ?_; conv => whnf)
    | (refine br_not ?_; conv => whnf)
    | (refine br_code ?_; conv => whnf)
    | (with_reducible refine br_and ?_; conv => whnf)
    | (with_reducible refine br_or ?_; conv => whnf)
    | (refine br_eq2 ?_; conv => whnf)
    | (refine c_impl_IsAngle.call ?_; conv => whnf)
    | (refine c_impl_IsAngle.quiet ?_; conv => whnf)
    | (refine CallOK.useR (c_sailOf_ok (by first | assumption | exact Row.lit rfl rfl | omega) (by first | assumption | exact Row.lit rfl rfl | omega)) [] rfl rfl rfl trivial (fun v_ mem_ hR => ?_); obtain ⟨n_, c_, j_, k_, sp_, sq_, hrow_, hrow2_, hn_, rfl, rfl⟩ := hR; refine ⟨rfl, ?_⟩; conv => whnf)
    | (refine CallOK.useR (c_sailOf_no (by first | assumption | exact Row.lit rfl rfl | omega) (by first | assumption | exact Row.lit rfl rfl | omega)) [] rfl rfl rfl trivial (fun v_ mem_ hR => ?_); obtain ⟨rfl, rfl⟩ := hR; refine ⟨rfl, ?_⟩; conv => whnf)
    | (refine draw_auto (by decide +kernel) ?_; conv => whnf)
    | (refine draw_asg (by decide +kernel) ?_; conv => whnf)
    | (refine draw_st (by decide +kernel) ?_; conv => whnf)
    | (refine draw_call (by decide +kernel) ?_; conv => whnf)
    | (refine enter_same (loop_n 12 ?_); conv => whnf)
    | (refine next_same ?_; conv => whnf)
    | (refine mapK_row (by assumption) ?_; conv => whnf)
    | (refine mapK_plain (Plain.of rfl) ?_; conv => whnf)
    | (refine mapK_lit ?_; conv => whnf)
    | (refine br_split (fun _ => ?_) (fun _ => ?_) <;> conv => whnf)
    | exact (rfl : (_ : Value) = _)
    | (simp only [*]; exact (rfl : (_ : Value) = _))
    | (simp [*]; done))

theorem c_angleSail_no2 {a b c d : Int} (h : AngOk a b c d) (ht : sailT a b c d 0 = none) : CallOK Try.prog n_impl_angleSail [pt a b, pt c d] [] (fun v m_ => v = t2 (.pointer none) (ii 3) ∧ m_ = []) := by
  have ha_ := ang_no h; refine callOK_ofF good fn_impl_angleSail ?_
  conv => whnf
  all_goals (repeat' first
    | exact out_forget [] ⟨rfl, rfl⟩ rfl (okB2_spec rfl) trivial rfl rfl
    | (refine StoreK.mk rfl ?_; conv => whnf)
    | exact join_same
    | exact (by assumption : (_ : Bool) = (_ : Bool))
    | (refine br_true (by assumption) ?_; conv => whnf)
    | (refine br_false (by assumption) ?_; conv => whnf)
    | (refine br_not ?_; conv => whnf)
    | (refine br_code ?_; conv => whnf)
    | (with_reducible refine br_and ?_; conv => whnf)
    | (with_reducible refine br_or ?_; conv => whnf)
    | (refine br_eq2 ?_; conv => whnf)
    | (refine c_impl_IsAngle.call ?_; conv => whnf)
    | (refine c_impl_IsAngle.quiet ?_; conv => whnf)
    | (refine CallOK.useR (c_sailOf_ok (by first | assumption | exact Row.lit rfl rfl | omega) (by first | assumption | exact Row.lit rfl rfl | omega)) [] rfl rfl rfl trivial (fun v_ mem_ hR => ?_); obtain ⟨n_, c_, j_, k_, sp_, sq_, hrow_, hrow2_, hn_, rfl, rfl⟩ := hR; refine ⟨rfl, ?_⟩; conv => whnf)
    | (refine CallOK.useR (c_sailOf_no (by first | assumption | exact Row.lit rfl rfl | omega) (by first | assumption | exact Row.lit rfl rfl | omega)) [] rfl rfl rfl trivial (fun v_ mem_ hR => ?_); obtain ⟨rfl, rfl⟩ := hR; refine ⟨rfl, ?_⟩; conv => whnf)
    | (refine draw_auto (by decide +kernel) ?_; conv => whnf)
    | (refine draw_asg (by decide +kernel) ?_; conv => whnf)
    | (refine draw_st (by decide +kernel) ?_; conv => whnf)
    | (refine draw_call (by decide +kernel) ?_; conv => whnf)
    | (refine enter_same (loop_n 12 ?_); conv => whnf)
    | (refine next_same ?_; conv => whnf)
    | (refine mapK_row (by assumption) ?_; conv => whnf)
    | (refine mapK_plain (Plain.of rfl) ?_; conv => whnf)
    | (refine mapK_lit ?_; conv => whnf)
    | (refine br_split (fun _ => ?_) (fun _ => ?_) <;> conv => whnf)
    | exact (rfl : (_ : Value) = _)
    | (simp only [*]; exact (rfl : (_ : Value) = _))
    | (simp [*]; done))

theorem c_angleSail_no1 {a b c d : Int} (h : isAngF a b c d = false) : CallOK Try.prog n_impl_angleSail [pt a b, pt c d] [] (fun v m_ => v = t2 (.pointer none) (ii 1) ∧ m_ = []) := by
  refine callOK_ofF good fn_impl_angleSail ?_
  conv => whnf
  all_goals (repeat' first
    | exact out_forget [] ⟨rfl, rfl⟩ rfl (okB2_spec rfl) trivial rfl rfl
    | (refine StoreK.mk rfl ?_; conv => whnf)
    | exact join_same
    | exact (by assumption : (_ : Bool) = (_ : Bool))
    | (refine br_true (by assumption) ?_; conv => whnf)
    | (refine br_false (by assumption) ?_; conv => whnf)
    | (refine br_not ?_; conv => whnf)
    | (refine br_code ?_; conv => whnf)
    | (with_reducible refine br_and ?_; conv => whnf)
    | (with_reducible refine br_or ?_; conv => whnf)
    | (refine br_eq2 ?_; conv => whnf)
    | (refine c_impl_IsAngle.call ?_; conv => whnf)
    | (refine c_impl_IsAngle.quiet ?_; conv => whnf)
    | (refine CallOK.useR (c_sailOf_ok (by first | assumption | exact Row.lit rfl rfl | omega) (by first | assumption | exact Row.lit rfl rfl | omega)) [] rfl rfl rfl trivial (fun v_ mem_ hR => ?_); obtain ⟨n_, c_, j_, k_, sp_, sq_, hrow_, hrow2_, hn_, rfl, rfl⟩ := hR; refine ⟨rfl, ?_⟩; conv => whnf)
    | (refine CallOK.useR (c_sailOf_no (by first | assumption | exact Row.lit rfl rfl | omega) (by first | assumption | exact Row.lit rfl rfl | omega)) [] rfl rfl rfl trivial (fun v_ mem_ hR => ?_); obtain ⟨rfl, rfl⟩ := hR; refine ⟨rfl, ?_⟩; conv => whnf)
    | (refine draw_auto (by decide +kernel) ?_; conv => whnf)
    | (refine draw_asg (by decide +kernel) ?_; conv => whnf)
    | (refine draw_st (by decide +kernel) ?_; conv => whnf)
    | (refine draw_call (by decide +kernel) ?_; conv => whnf)
    | (refine enter_same (loop_n 12 ?_); conv => whnf)
    | (refine next_same ?_; conv => whnf)
    | (refine mapK_row (by assumption) ?_; conv => whnf)
    | (refine mapK_plain (Plain.of rfl) ?_; conv => whnf)
    | (refine mapK_lit ?_; conv => whnf)
    | (refine br_split (fun _ => ?_) (fun _ => ?_) <;> conv => whnf)
    | exact (rfl : (_ : Value) = _)
    | (simp only [*]; exact (rfl : (_ : Value) = _))
    | (simp [*]; done))

theorem c_l03Code_ok {a b c d : Int} {P : List (Int × Int)} {T : List Int} (h : AngOk a b c d) (ht : sailT a b c d 2 = some (P, T)) : CallOK Try.prog n_spec_l03Code [pt a b, pt c d] [] (fun v m_ => ∃ n c_ j k sp sq, Row (pl P) sp n c_ 2 ∧ Row (il (T ++ [2])) sq j k 1 ∧ n ≤ 2000 ∧ v = .tuple #[.slice (some ⟨0, 0, none⟩) n c_, .slice (some ⟨1, 0, none⟩) j k, ii 0] ∧ m_ = [(pl P ++ sp, some t_impl_Point), (il (T ++ [2]) ++ sq, some 2)]) := by
  have ha_ := ang_no h; refine callOK_ofF good fn_spec_l03Code ?_
  conv => whnf
  all_goals (repeat' first
    | exact out_forget [_, _] ⟨_, _, _, _, _, _, hrow_, hrow2_, hn_, rfl, rfl⟩ rfl (okB2_spec rfl) ⟨⟨⟨_, rfl, .plain rfl rfl (Row.all hrow_)⟩⟩, ⟨⟨_, rfl, .plain rfl rfl (Row.all hrow2_)⟩⟩, trivial⟩ rfl rfl
    | (refine StoreK.mk rfl ?_; conv => whnf)
    | exact join_same
    | exact (by assumption : (_ : Bool) = (_ : Bool))
    | (refine br_true (by assumption) ?_; conv => whnf)
    | (refine br_false (by assumption) ?_; conv => whnf)
    | (refine br_not ?_; conv => whnf)
    | (refine br_code ?_; conv => whnf)
    | (with_reducible refine br_and ?_; conv => whnf)
    | (with_reducible refine br_or ?_; conv => whnf)
    | (refine br_eq2 ?_; conv => whnf)
    | (refine c_spec_l03Is.call ?_; conv => whnf)
    | (refine c_spec_l03Is.quiet ?_; conv => whnf)
    | (refine CallOK.useR (c_l03Sail_ok (by first | assumption | exact Row.lit rfl rfl | omega) (by first | assumption | exact Row.lit rfl rfl | omega)) [] rfl rfl rfl trivial (fun v_ mem_ hR => ?_); obtain ⟨n_, c_, j_, k_, sp_, sq_, hrow_, hrow2_, hn_, rfl, rfl⟩ := hR; refine ⟨rfl, ?_⟩; conv => whnf)
    | (refine CallOK.useR (c_l03Sail_no (by first | assumption | exact Row.lit rfl rfl | omega) (by first | assumption | exact Row.lit rfl rfl | omega)) [] rfl rfl rfl trivial (fun v_ mem_ hR => ?_); obtain ⟨rfl, rfl⟩ := hR; refine ⟨rfl, ?_⟩; conv => whnf)
    | (refine draw_auto (by decide +kernel) ?_; conv => whnf)
    | (refine draw_asg (by decide +kernel) ?_; conv => whnf)
    | (refine draw_st (by decide +kernel) ?_; conv => whnf)
    | (refine draw_call (by decide +kernel) ?_; conv => whnf)
    | (refine enter_same (loop_n 12 ?_); conv => whnf)
    | (refine next_same ?_; conv => whnf)
    | (refine mapK_row (by assumption) ?_; conv => whnf)
    | (refine mapK_plain (Plain.of rfl) ?_; conv => whnf)
    | (refine mapK_lit ?_; conv => whnf)
    | (refine br_split (fun _ => ?_) (fun _ => ?_) <;> conv => whnf)
    | exact (rfl : (_ : Value) = _)
    | (simp only [*]; exact (rfl : (_ : Value) = _))
    | (simp [*]; done))

theorem c_l03Code_no2 {a b c d : Int} (h : AngOk a b c d) (ht : sailT a b c d 2 = none) : CallOK Try.prog n_spec_l03Code [pt a b, pt c d] [] (fun v m_ => v = .tuple #[.slice none 0 0, .slice none 0 0, ii 3] ∧ m_ = []) := by
  have ha_ := ang_no h; refine callOK_ofF good fn_spec_l03Code ?_
  conv => whnf
  all_goals (repeat' first
    | exact out_forget [] ⟨rfl, rfl⟩ rfl (okB2_spec rfl) trivial rfl rfl
    | (refine StoreK.mk rfl ?_; conv => whnf)
    | exact join_same
    | exact (by assumption : (_ : Bool) = (_ : Bool))
    | (refine br_true (by assumption) ?_; conv => whnf)
    | (refine br_false (by assumption) ?_; conv => whnf)
    | (refine br_not ?_; conv => whnf)
    | (refine br_code ?_; conv => whnf)
    | (with_reducible refine br_and ?_; conv => whnf)
    | (with_reducible refine br_or ?_; conv => whnf)
    | (refine br_eq2 ?_; conv => whnf)
    | (refine c_spec_l03Is.call ?_; conv => whnf)
    | (refine c_spec_l03Is.quiet ?_; conv => whnf)
    | (refine CallOK.useR (c_l03Sail_ok (by first | assumption | exact Row.lit rfl rfl | omega) (by first | assumption | exact Row.lit rfl rfl | omega)) [] rfl rfl rfl trivial (fun v_ mem_ hR => ?_); obtain ⟨n_, c_, j_, k_, sp_, sq_, hrow_, hrow2_, hn_, rfl, rfl⟩ := hR; refine ⟨rfl, ?_⟩; conv => whnf)
    | (refine CallOK.useR (c_l03Sail_no (by first | assumption | exact Row.lit rfl rfl | omega) (by first | assumption | exact Row.lit rfl rfl | omega)) [] rfl rfl rfl trivial (fun v_ mem_ hR => ?_); obtain ⟨rfl, rfl⟩ := hR; refine ⟨rfl, ?_⟩; conv => whnf)
    | (refine draw_auto (by decide +kernel) ?_; conv => whnf)
    | (refine draw_asg (by decide +kernel) ?_; conv => whnf)
    | (refine draw_st (by decide +kernel) ?_; conv => whnf)
    | (refine draw_call (by decide +kernel) ?_; conv => whnf)
    | (refine enter_same (loop_n 12 ?_); conv => whnf)
    | (refine next_same ?_; conv => whnf)
    | (refine mapK_row (by assumption) ?_; conv => whnf)
    | (refine mapK_plain (Plain.of rfl) ?_; conv => whnf)
    | (refine mapK_lit ?_; conv => whnf)
    | (refine br_split (fun _ => ?_) (fun _ => ?_) <;> conv => whnf)
    | exact (rfl : (_ : Value) = _)
    | (simp only [*]; exact (rfl : (_ : Value) = _))
    | (simp [*]; done))

theorem c_l03Code_no1 {a b c d : Int} (h : isAngF a b c d = false) : CallOK Try.prog n_spec_l03Code [pt a b, pt c d] [] (fun v m_ => v = .tuple #[.slice none 0 0, .slice none 0 0, ii 1] ∧ m_ = []) := by
  refine callOK_ofF good fn_spec_l03Code ?_
  conv => whnf
  all_goals (repeat' first
    | exact out_forget [] ⟨rfl, rfl⟩ rfl (okB2_spec rfl) trivial rfl rfl
    | (refine StoreK.mk rfl ?_; conv => whnf)
    | exact join_same
    | exact (by assumption : (_ : Bool) = (_ : Bool))
    | (refine br_true (by assumption) ?_; conv => whnf)
    | (refine br_false (by assumption) ?_; conv => whnf)
    | (refine br_not ?_; conv => whnf)
    | (refine br_code ?_; conv => whnf)
    | (with_reducible refine br_and ?_; conv => whnf)
    | (with_reducible refine br_or ?_; conv => whnf)
    | (refine br_eq2 ?_; conv => whnf)
    | (refine c_spec_l03Is.call ?_; conv => whnf)
    | (refine c_spec_l03Is.quiet ?_; conv => whnf)
    | (refine CallOK.useR (c_l03Sail_ok (by first | assumption | exact Row.lit rfl rfl | omega) (by first | assumption | exact Row.lit rfl rfl | omega)) [] rfl rfl rfl trivial (fun v_ mem_ hR => ?_); obtain ⟨n_, c_, j_, k_, sp_, sq_, hrow_, hrow2_, hn_, rfl, rfl⟩ := hR; refine ⟨rfl, ?_⟩; conv => whnf)
    | (refine CallOK.useR (c_l03Sail_no (by first | assumption | exact Row.lit rfl rfl | omega) (by first | assumption | exact Row.lit rfl rfl | omega)) [] rfl rfl rfl trivial (fun v_ mem_ hR => ?_); obtain ⟨rfl, rfl⟩ := hR; refine ⟨rfl, ?_⟩; conv => whnf)
    | (refine draw_auto (by decide +kernel) ?_; conv => whnf)
    | (refine draw_asg (by decide +kernel) ?_; conv => whnf)
    | (refine draw_st (by decide +kernel) ?_; conv => whnf)
    | (refine draw_call (by decide +kernel) ?_; conv => whnf)
    | (refine enter_same (loop_n 12 ?_); conv => whnf)
    | (refine next_same ?_; conv => whnf)
    | (refine mapK_row (by assumption) ?_; conv => whnf)
    | (refine mapK_plain (Plain.of rfl) ?_; conv => whnf)
    | (refine mapK_lit ?_; conv => whnf)
    | (refine br_split (fun _ => ?_) (fun _ => ?_) <;> conv => whnf)
    | exact (rfl : (_ : Value) = _)
    | (simp only [*]; exact (rfl : (_ : Value) = _))
    | (simp [*]; done))

theorem c_impl_AreaBelow_ok {a b c d : Int} {P : List (Int × Int)} {T : List Int} (h : AngOk a b c d) (ht : sailT a b c d 0 = some (P, T)) : CallOK Try.prog n_impl_AreaBelow [pt a b, pt c d] [] (fun v m_ => v = t2 (ii (w64 ((P.length : Int) - 1))) (ii 0) ∧ m_ = []) := by
  have ha_ := ang_no h; refine callOK_ofF good fn_impl_AreaBelow ?_
  conv => whnf
  all_goals (repeat' first
    | (obtain rfl := row_pl hrow_; exact out_forget [] ⟨rfl, rfl⟩ rfl (okB2_spec rfl) trivial rfl rfl)
    | exact out_forget [] ⟨rfl, rfl⟩ rfl (okB2_spec rfl) trivial rfl rfl
    | (refine StoreK.mk rfl ?_; conv => whnf)
    | exact join_same
    | exact (by assumption : (_ : Bool) = (_ : Bool))
    | (refine br_true (by assumption) ?_; conv => whnf)
    | (refine br_false (by assumption) ?_; conv => whnf)
    | (refine br_not ?_; conv => whnf)
    | (refine br_code ?_; conv => whnf)
    | (with_reducible refine br_and ?_; conv => whnf)
    | (with_reducible refine br_or ?_; conv => whnf)
    | (refine br_eq2 ?_; conv => whnf)
    | (refine CallOK.useR (c_angleSail_ok (by first | assumption | exact Row.lit rfl rfl | omega) (by first | assumption | exact Row.lit rfl rfl | omega)) [] rfl rfl rfl trivial (fun v_ mem_ hR => ?_); obtain ⟨n_, c_, j_, k_, sp_, sq_, hrow_, hrow2_, hn_, rfl, rfl⟩ := hR; refine ⟨rfl, ?_⟩; conv => whnf)
    | (refine CallOK.useR (c_angleSail_no2 (by first | assumption | exact Row.lit rfl rfl | omega) (by first | assumption | exact Row.lit rfl rfl | omega)) [] rfl rfl rfl trivial (fun v_ mem_ hR => ?_); obtain ⟨rfl, rfl⟩ := hR; refine ⟨rfl, ?_⟩; conv => whnf)
    | (refine CallOK.useR (c_angleSail_no1 (by first | assumption | exact Row.lit rfl rfl | omega)) [] rfl rfl rfl trivial (fun v_ mem_ hR => ?_); obtain ⟨rfl, rfl⟩ := hR; refine ⟨rfl, ?_⟩; conv => whnf)
    | (refine draw_auto (by decide +kernel) ?_; conv => whnf)
    | (refine draw_asg (by decide +kernel) ?_; conv => whnf)
    | (refine draw_st (by decide +kernel) ?_; conv => whnf)
    | (refine draw_call (by decide +kernel) ?_; conv => whnf)
    | (refine enter_same (loop_n 12 ?_); conv => whnf)
    | (refine next_same ?_; conv => whnf)
    | (refine mapK_row (by assumption) ?_; conv => whnf)
    | (refine mapK_plain (Plain.of rfl) ?_; conv => whnf)
    | (refine mapK_lit ?_; conv => whnf)
    | (refine br_split (fun _ => ?_) (fun _ => ?_) <;> conv => whnf)
    | exact (rfl : (_ : Value) = _)
    | (simp only [*]; exact (rfl : (_ : Value) = _))
    | (simp [*]; done))

theorem c_impl_AreaBelow_no2 {a b c d : Int} (h : AngOk a b c d) (ht : sailT a b c d 0 = none) : CallOK Try.prog n_impl_AreaBelow [pt a b, pt c d] [] (fun v m_ => v = t2 (ii 0) (ii 3) ∧ m_ = []) := by
  have ha_ := ang_no h; refine callOK_ofF good fn_impl_AreaBelow ?_
  conv => whnf
  all_goals (repeat' first
    | exact out_forget [] ⟨rfl, rfl⟩ rfl (okB2_spec rfl) trivial rfl rfl
    | (refine StoreK.mk rfl ?_; conv => whnf)
    | exact join_same
    | exact (by assumption : (_ : Bool) = (_ : Bool))
    | (refine br_true (by assumption) ?_; conv => whnf)
    | (refine br_false (by assumption) ?_; conv => whnf)
    | (refine br_not ?_; conv => whnf)
    | (refine br_code ?_; conv => whnf)
    | (with_reducible refine br_and ?_; conv => whnf)
    | (with_reducible refine br_or ?_; conv => whnf)
    | (refine br_eq2 ?_; conv => whnf)
    | (refine CallOK.useR (c_angleSail_ok (by first | assumption | exact Row.lit rfl rfl | omega) (by first | assumption | exact Row.lit rfl rfl | omega)) [] rfl rfl rfl trivial (fun v_ mem_ hR => ?_); obtain ⟨n_, c_, j_, k_, sp_, sq_, hrow_, hrow2_, hn_, rfl, rfl⟩ := hR; refine ⟨rfl, ?_⟩; conv => whnf)
    | (refine CallOK.useR (c_angleSail_no2 (by first | assumption | exact Row.lit rfl rfl | omega) (by first | assumption | exact Row.lit rfl rfl | omega)) [] rfl rfl rfl trivial (fun v_ mem_ hR => ?_); obtain ⟨rfl, rfl⟩ := hR; refine ⟨rfl, ?_⟩; conv => whnf)
    | (refine CallOK.useR (c_angleSail_no1 (by first | assumption | exact Row.lit rfl rfl | omega)) [] rfl rfl rfl trivial (fun v_ mem_ hR => ?_); obtain ⟨rfl, rfl⟩ := hR; refine ⟨rfl, ?_⟩; conv => whnf)
    | (refine draw_auto (by decide +kernel) ?_; conv => whnf)
    | (refine draw_asg (by decide +kernel) ?_; conv => whnf)
    | (refine draw_st (by decide +kernel) ?_; conv => whnf)
    | (refine draw_call (by decide +kernel) ?_; conv => whnf)
    | (refine enter_same (loop_n 12 ?_); conv => whnf)
    | (refine next_same ?_; conv => whnf)
    | (refine mapK_row (by assumption) ?_; conv => whnf)
    | (refine mapK_plain (Plain.of rfl) ?_; conv => whnf)
    | (refine mapK_lit ?_; conv => whnf)
    | (refine br_split (fun _ => ?_) (fun _ => ?_) <;> conv => whnf)
    | exact (rfl : (_ : Value) = _)
    | (simp only [*]; exact (rfl : (_ : Value) = _))
    | (simp [*]; done))

theorem c_impl_AreaBelow_no1 {a b c d : Int} (h : isAngF a b c d = false) : CallOK Try.prog n_impl_AreaBelow [pt a b, pt c d] [] (fun v m_ => v = t2 (ii 0) (ii 1) ∧ m_ = []) := by
  refine callOK_ofF good fn_impl_AreaBelow ?_
  conv => whnf
  all_goals (repeat' first
    | exact out_forget [] ⟨rfl, rfl⟩ rfl (okB2_spec rfl) trivial rfl rfl
    | (refine StoreK.mk rfl ?_; conv => whnf)
    | exact join_same
    | exact (by assumption : (_ : Bool) = (_ : Bool))
    | (refine br_true (by assumption) ?_; conv => whnf)
    | (refine br_false (by assumption) ?_; conv => whnf)
    | (refine br_not ?_; conv => whnf)
    | (refine br_code ?_; conv => whnf)
    | (with_reducible refine br_and ?_; conv => whnf)
    | (with_reducible refine br_or ?_; conv => whnf)
    | (refine br_eq2 ?_; conv => whnf)
    | (refine CallOK.useR (c_angleSail_ok (by first | assumption | exact Row.lit rfl rfl | omega) (by first | assumption | exact Row.lit rfl rfl | omega)) [] rfl rfl rfl trivial (fun v_ mem_ hR => ?_); obtain ⟨n_, c_, j_, k_, sp_, sq_, hrow_, hrow2_, hn_, rfl, rfl⟩ := hR; refine ⟨rfl, ?_⟩; conv => whnf)
    | (refine CallOK.useR (c_angleSail_no2 (by first | assumption | exact Row.lit rfl rfl | omega) (by first | assumption | exact Row.lit rfl rfl | omega)) [] rfl rfl rfl trivial (fun v_ mem_ hR => ?_); obtain ⟨rfl, rfl⟩ := hR; refine ⟨rfl, ?_⟩; conv => whnf)
    | (refine CallOK.useR (c_angleSail_no1 (by first | assumption | exact Row.lit rfl rfl | omega)) [] rfl rfl rfl trivial (fun v_ mem_ hR => ?_); obtain ⟨rfl, rfl⟩ := hR; refine ⟨rfl, ?_⟩; conv => whnf)
    | (refine draw_auto (by decide +kernel) ?_; conv => whnf)
    | (refine draw_asg (by decide +kernel) ?_; conv => whnf)
    | (refine draw_st (by decide +kernel) ?_; conv => whnf)
    | (refine draw_call (by decide +kernel) ?_; conv => whnf)
    | (refine enter_same (loop_n 12 ?_); conv => whnf)
    | (refine next_same ?_; conv => whnf)
    | (refine mapK_row (by assumption) ?_; conv => whnf)
    | (refine mapK_plain (Plain.of rfl) ?_; conv => whnf)
    | (refine mapK_lit ?_; conv => whnf)
    | (refine br_split (fun _ => ?_) (fun _ => ?_) <;> conv => whnf)
    | exact (rfl : (_ : Value) = _)
    | (simp only [*]; exact (rfl : (_ : Value) = _))
    | (simp [*]; done))

theorem c_spec_AreaBelow_ok {a b c d : Int} {P : List (Int × Int)} {T : List Int} (h : AngOk a b c d) (ht : sailT a b c d 2 = some (P, T)) : CallOK Try.prog n_spec_AreaBelow [pt a b, pt c d] [] (fun v m_ => v = t2 (ii (w64 ((P.length : Int) - 1))) (ii 0) ∧ m_ = []) := by
  have ha_ := ang_no h; refine callOK_ofF good fn_spec_AreaBelow ?_
  conv => whnf
  all_goals (repeat' first
    | (obtain rfl := row_pl hrow_; exact out_forget [] ⟨rfl, rfl⟩ rfl (okB2_spec rfl) trivial rfl rfl)
    | exact out_forget [] ⟨rfl, rfl⟩ rfl (okB2_spec rfl) trivial rfl rfl
    | (refine StoreK.mk rfl ?_; conv => whnf)
    | exact join_same
    | exact (by assumption : (_ : Bool) = (_ : Bool))
    | (refine br_true (by assumption) ?_; conv => whnf)
    | (refine br_false (by assumption) ?_; conv => whnf)
    | (refine br_not ?_; conv => whnf)
    | (refine br_code ?_; conv => whnf)
    | (with_reducible refine br_and ?_; conv => whnf)
    | (with_reducible refine br_or ?_; conv => whnf)
    | (refine br_eq2 ?_; conv => whnf)
    | (refine CallOK.useR (c_l03Code_ok (by first | assumption | exact Row.lit rfl rfl | omega) (by first | assumption | exact Row.lit rfl rfl | omega)) [] rfl rfl rfl trivial (fun v_ mem_ hR => ?_); obtain ⟨n_, c_, j_, k_, sp_, sq_, hrow_, hrow2_, hn_, rfl, rfl⟩ := hR; refine ⟨rfl, ?_⟩; conv => whnf)
    | (refine CallOK.useR (c_l03Code_no2 (by first | assumption | exact Row.lit rfl rfl | omega) (by first | assumption | exact Row.lit rfl rfl | omega)) [] rfl rfl rfl trivial (fun v_ mem_ hR => ?_); obtain ⟨rfl, rfl⟩ := hR; refine ⟨rfl, ?_⟩; conv => whnf)
    | (refine CallOK.useR (c_l03Code_no1 (by first | assumption | exact Row.lit rfl rfl | omega)) [] rfl rfl rfl trivial (fun v_ mem_ hR => ?_); obtain ⟨rfl, rfl⟩ := hR; refine ⟨rfl, ?_⟩; conv => whnf)
    | (refine draw_auto (by decide +kernel) ?_; conv => whnf)
    | (refine draw_asg (by decide +kernel) ?_; conv => whnf)
    | (refine draw_st (by decide +kernel) ?_; conv => whnf)
    | (refine draw_call (by decide +kernel) ?_; conv => whnf)
    | (refine enter_same (loop_n 12 ?_); conv => whnf)
    | (refine next_same ?_; conv => whnf)
    | (refine mapK_row (by assumption) ?_; conv => whnf)
    | (refine mapK_plain (Plain.of rfl) ?_; conv => whnf)
    | (refine mapK_lit ?_; conv => whnf)
    | (refine br_split (fun _ => ?_) (fun _ => ?_) <;> conv => whnf)
    | exact (rfl : (_ : Value) = _)
    | (simp only [*]; exact (rfl : (_ : Value) = _))
    | (simp [*]; done))

theorem c_spec_AreaBelow_no2 {a b c d : Int} (h : AngOk a b c d) (ht : sailT a b c d 2 = none) : CallOK Try.prog n_spec_AreaBelow [pt a b, pt c d] [] (fun v m_ => v = t2 (ii 0) (ii 3) ∧ m_ = []) := by
  have ha_ := ang_no h; refine callOK_ofF good fn_spec_AreaBelow ?_
  conv => whnf
  all_goals (repeat' first
    | exact out_forget [] ⟨rfl, rfl⟩ rfl (okB2_spec rfl) trivial rfl rfl
    | (refine StoreK.mk rfl ?_; conv => whnf)
    | exact join_same
    | exact (by assumption : (_ : Bool) = (_ : Bool))
    | (refine br_true (by assumption) ?_; conv => whnf)
    | (refine br_false (by assumption) ?_; conv => whnf)
    | (refine br_not ?_; conv => whnf)
    | (refine br_code ?_; conv => whnf)
    | (with_reducible refine br_and ?_; conv => whnf)
    | (with_reducible refine br_or ?_; conv => whnf)
    | (refine br_eq2 ?_; conv => whnf)
    | (refine CallOK.useR (c_l03Code_ok (by first | assumption | exact Row.lit rfl rfl | omega) (by first | assumption | exact Row.lit rfl rfl | omega)) [] rfl rfl rfl trivial (fun v_ mem_ hR => ?_); obtain ⟨n_, c_, j_, k_, sp_, sq_, hrow_, hrow2_, hn_, rfl, rfl⟩ := hR; refine ⟨rfl, ?_⟩; conv => whnf)
    | (refine CallOK.useR (c_l03Code_no2 (by first | assumption | exact Row.lit rfl rfl | omega) (by first | assumption | exact Row.lit rfl rfl | omega)) [] rfl rfl rfl trivial (fun v_ mem_ hR => ?_); obtain ⟨rfl, rfl⟩ := hR; refine ⟨rfl, ?_⟩; conv => whnf)
    | (refine CallOK.useR (c_l03Code_no1 (by first | assumption | exact Row.lit rfl rfl | omega)) [] rfl rfl rfl trivial (fun v_ mem_ hR => ?_); obtain ⟨rfl, rfl⟩ := hR; refine ⟨rfl, ?_⟩; conv => whnf)
    | (refine draw_auto (by decide +kernel) ?_; conv => whnf)
    | (refine draw_asg (by decide +kernel) ?_; conv => whnf)
    | (refine draw_st (by decide +kernel) ?_; conv => whnf)
    | (refine draw_call (by decide +kernel) ?_; conv => whnf)
    | (refine enter_same (loop_n 12 ?_); conv => whnf)
    | (refine next_same ?_; conv => whnf)
    | (refine mapK_row (by assumption) ?_; conv => whnf)
    | (refine mapK_plain (Plain.of rfl) ?_; conv => whnf)
    | (refine mapK_lit ?_; conv => whnf)
    | (refine br_split (fun _ => ?_) (fun _ => ?_) <;> conv => whnf)
    | exact (rfl : (_ : Value) = _)
    | (simp only [*]; exact (rfl : (_ : Value) = _))
    | (simp [*]; done))

theorem c_spec_AreaBelow_no1 {a b c d : Int} (h : isAngF a b c d = false) : CallOK Try.prog n_spec_AreaBelow [pt a b, pt c d] [] (fun v m_ => v = t2 (ii 0) (ii 1) ∧ m_ = []) := by
  refine callOK_ofF good fn_spec_AreaBelow ?_
  conv => whnf
  all_goals (repeat' first
    | exact out_forget [] ⟨rfl, rfl⟩ rfl (okB2_spec rfl) trivial rfl rfl
    | (refine StoreK.mk rfl ?_; conv => whnf)
    | exact join_same
    | exact (by assumption : (_ : Bool) = (_ : Bool))
    | (refine br_true (by assumption) ?_; conv => whnf)
    | (refine br_false (by assumption) ?_; conv => whnf)
    | (refine br_not ?_; conv => whnf)
    | (refine br_code ?_; conv => whnf)
    | (with_reducible refine br_and ?_; conv => whnf)
    | (with_reducible refine br_or ?_; conv => whnf)
    | (refine br_eq2 ?_; conv => whnf)
    | (refine CallOK.useR (c_l03Code_ok (by first | assumption | exact Row.lit rfl rfl | omega) (by first | assumption | exact Row.lit rfl rfl | omega)) [] rfl rfl rfl trivial (fun v_ mem_ hR => ?_); obtain ⟨n_, c_, j_, k_, sp_, sq_, hrow_, hrow2_, hn_, rfl, rfl⟩ := hR; refine ⟨rfl, ?_⟩; conv => whnf)
    | (refine CallOK.useR (c_l03Code_no2 (by first | assumption | exact Row.lit rfl rfl | omega) (by first | assumption | exact Row.lit rfl rfl | omega)) [] rfl rfl rfl trivial (fun v_ mem_ hR => ?_); obtain ⟨rfl, rfl⟩ := hR; refine ⟨rfl, ?_⟩; conv => whnf)
    | (refine CallOK.useR (c_l03Code_no1 (by first | assumption | exact Row.lit rfl rfl | omega)) [] rfl rfl rfl trivial (fun v_ mem_ hR => ?_); obtain ⟨rfl, rfl⟩ := hR; refine ⟨rfl, ?_⟩; conv => whnf)
    | (refine draw_auto (by decide +kernel) ?_; conv => whnf)
    | (refine draw_asg (by decide +kernel) ?_; conv => whnf)
    | (refine draw_st (by decide +kernel) ?_; conv => whnf)
    | (refine draw_call (by decide +kernel) ?_; conv => whnf)
    | (refine enter_same (loop_n 12 ?_); conv => whnf)
    | (refine next_same ?_; conv => whnf)
    | (refine mapK_row (by assumption) ?_; conv => whnf)
    | (refine mapK_plain (Plain.of rfl) ?_; conv => whnf)
    | (refine mapK_lit ?_; conv => whnf)
    | (refine br_split (fun _ => ?_) (fun _ => ?_) <;> conv => whnf)
    | exact (rfl : (_ : Value) = _)
    | (simp only [*]; exact (rfl : (_ : Value) = _))
    | (simp [*]; done))

theorem c_law_FnExactAreaBelow_ok {a b c d : Int} {P : List (Int × Int)} {T U : List Int} (h : AngOk a b c d) (ht : sailT a b c d 0 = some (P, T)) (ht2 : sailT a b c d 2 = some (P, U)) : Pure Try.prog n_laws_FnExactAreaBelow [pt a b, pt c d] (bb true) := by
  refine pure_of good fn_laws_FnExactAreaBelow rfl rfl ?_
  conv => whnf
  all_goals (repeat' first
    | (refine br_true ?_ ?_; (focus (simp; done)); conv => whnf)
    | (refine br_false ?_ ?_; (focus (simp; done)); conv => whnf)
    | (refine br_false (decide_eq_false (by omega)) ?_; conv => whnf)
    | (refine draw_call (by decide +kernel) ?_; conv => whnf)
    | (refine StoreK.mk rfl ?_; conv => whnf)
    | exact join_same
    | exact (by assumption : (_ : Bool) = (_ : Bool))
    | (refine br_true (by assumption) ?_; conv => whnf)
    | (refine br_false (by assumption) ?_; conv => whnf)
    | (refine br_not ?_; conv => whnf)
    | (refine br_code ?_; conv => whnf)
    | (with_reducible refine br_and ?_; conv => whnf)
    | (with_reducible refine br_or ?_; conv => whnf)
    | (refine br_eq2 ?_; conv => whnf)
    | (refine c_laws_toPoint.call ?_; conv => whnf)
    | (refine c_laws_toPoint.quiet ?_; conv => whnf)
    | (refine CallOK.useR (c_spec_AreaBelow_ok (by first | assumption | exact Row.lit rfl rfl | omega) (by first | assumption | exact Row.lit rfl rfl | omega)) [] rfl rfl rfl trivial (fun v_ mem_ hR => ?_); obtain ⟨rfl, rfl⟩ := hR; refine ⟨rfl, ?_⟩; conv => whnf)
    | (refine CallOK.useR (c_spec_AreaBelow_no2 (by first | assumption | exact Row.lit rfl rfl | omega) (by first | assumption | exact Row.lit rfl rfl | omega)) [] rfl rfl rfl trivial (fun v_ mem_ hR => ?_); obtain ⟨rfl, rfl⟩ := hR; refine ⟨rfl, ?_⟩; conv => whnf)
    | (refine CallOK.useR (c_spec_AreaBelow_no1 (by first | assumption | exact Row.lit rfl rfl | omega)) [] rfl rfl rfl trivial (fun v_ mem_ hR => ?_); obtain ⟨rfl, rfl⟩ := hR; refine ⟨rfl, ?_⟩; conv => whnf)
    | (refine CallOK.useR (c_impl_AreaBelow_ok (by first | assumption | exact Row.lit rfl rfl | omega) (by first | assumption | exact Row.lit rfl rfl | omega)) [] rfl rfl rfl trivial (fun v_ mem_ hR => ?_); obtain ⟨rfl, rfl⟩ := hR; refine ⟨rfl, ?_⟩; conv => whnf)
    | (refine CallOK.useR (c_impl_AreaBelow_no2 (by first | assumption | exact Row.lit rfl rfl | omega) (by first | assumption | exact Row.lit rfl rfl | omega)) [] rfl rfl rfl trivial (fun v_ mem_ hR => ?_); obtain ⟨rfl, rfl⟩ := hR; refine ⟨rfl, ?_⟩; conv => whnf)
    | (refine CallOK.useR (c_impl_AreaBelow_no1 (by first | assumption | exact Row.lit rfl rfl | omega)) [] rfl rfl rfl trivial (fun v_ mem_ hR => ?_); obtain ⟨rfl, rfl⟩ := hR; refine ⟨rfl, ?_⟩; conv => whnf)
    | (refine draw_auto (by decide +kernel) ?_; conv => whnf)
    | (refine draw_asg (by decide +kernel) ?_; conv => whnf)
    | (refine draw_st (by decide +kernel) ?_; conv => whnf)
    | (refine draw_call (by decide +kernel) ?_; conv => whnf)
    | (refine enter_same (loop_n 12 ?_); conv => whnf)
    | (refine next_same ?_; conv => whnf)
    | (refine mapK_row (by assumption) ?_; conv => whnf)
    | (refine mapK_plain (Plain.of rfl) ?_; conv => whnf)
    | (refine mapK_lit ?_; conv => whnf)
    | (refine br_split (fun _ => ?_) (fun _ => ?_) <;> conv => whnf)
    | exact (rfl : (_ : Value) = _)
    | (simp only [*]; exact (rfl : (_ : Value) = _))
    | (simp [*]; done))

theorem c_law_FnExactAreaBelow_no2 {a b c d : Int} (h : AngOk a b c d) (ht : sailT a b c d 0 = none) (ht2 : sailT a b c d 2 = none) : Pure Try.prog n_laws_FnExactAreaBelow [pt a b, pt c d] (bb true) := by
  refine pure_of good fn_laws_FnExactAreaBelow rfl rfl ?_
  conv => whnf
  all_goals (repeat' first
    | (refine br_true ?_ ?_; (focus (simp; done)); conv => whnf)
    | (refine br_false ?_ ?_; (focus (simp; done)); conv => whnf)
    | (refine br_false (decide_eq_false (by omega)) ?_; conv => whnf)
    | (refine draw_call (by decide +kernel) ?_; conv => whnf)
    | (refine StoreK.mk rfl ?_; conv => whnf)
    | exact join_same
    | exact (by assumption : (_ : Bool) = (_ : Bool))
    | (refine br_true (by assumption) ?_; conv => whnf)
    | (refine br_false (by assumption) ?_; conv => whnf)
    | (refine br_not ?_; conv => whnf)
    | (refine br_code ?_; conv => whnf)
    | (with_reducible refine br_and ?_; conv => whnf)
    | (with_reducible refine br_or ?_; conv => whnf)
    | (refine br_eq2 ?_; conv => whnf)
    | (refine c_laws_toPoint.call ?_; conv => whnf)
    | (refine c_laws_toPoint.quiet ?_; conv => whnf)
    | (refine CallOK.useR (c_spec_AreaBelow_ok (by first | assumption | exact Row.lit rfl rfl | omega) (by first | assumption | exact Row.lit rfl rfl | omega)) [] rfl rfl rfl trivial (fun v_ mem_ hR => ?_); obtain ⟨rfl, rfl⟩ := hR; refine ⟨rfl, ?_⟩; conv => whnf)
    | (refine CallOK.useR (c_spec_AreaBelow_no2 (by first | assumption | exact Row.lit rfl rfl | omega) (by first | assumption | exact Row.lit rfl rfl | omega)) [] rfl rfl rfl trivial (fun v_ mem_ hR => ?_); obtain ⟨rfl, rfl⟩ := hR; refine ⟨rfl, ?_⟩; conv => whnf)
    | (refine CallOK.useR (c_spec_AreaBelow_no1 (by first | assumption | exact Row.lit rfl rfl | omega)) [] rfl rfl rfl trivial (fun v_ mem_ hR => ?_); obtain ⟨rfl, rfl⟩ := hR; refine ⟨rfl, ?_⟩; conv => whnf)
    | (refine CallOK.useR (c_impl_AreaBelow_ok (by first | assumption | exact Row.lit rfl rfl | omega) (by first | assumption | exact Row.lit rfl rfl | omega)) [] rfl rfl rfl trivial (fun v_ mem_ hR => ?_); obtain ⟨rfl, rfl⟩ := hR; refine ⟨rfl, ?_⟩; conv => whnf)
    | (refine CallOK.useR (c_impl_AreaBelow_no2 (by first | assumption | exact Row.lit rfl rfl | omega) (by first | assumption | exact Row.lit rfl rfl | omega)) [] rfl rfl rfl trivial (fun v_ mem_ hR => ?_); obtain ⟨rfl, rfl⟩ := hR; refine ⟨rfl, ?_⟩; conv => whnf)
    | (refine CallOK.useR (c_impl_AreaBelow_no1 (by first | assumption | exact Row.lit rfl rfl | omega)) [] rfl rfl rfl trivial (fun v_ mem_ hR => ?_); obtain ⟨rfl, rfl⟩ := hR; refine ⟨rfl, ?_⟩; conv => whnf)
    | (refine draw_auto (by decide +kernel) ?_; conv => whnf)
    | (refine draw_asg (by decide +kernel) ?_; conv => whnf)
    | (refine draw_st (by decide +kernel) ?_; conv => whnf)
    | (refine draw_call (by decide +kernel) ?_; conv => whnf)
    | (refine enter_same (loop_n 12 ?_); conv => whnf)
    | (refine next_same ?_; conv => whnf)
    | (refine mapK_row (by assumption) ?_; conv => whnf)
    | (refine mapK_plain (Plain.of rfl) ?_; conv => whnf)
    | (refine mapK_lit ?_; conv => whnf)
    | (refine br_split (fun _ => ?_) (fun _ => ?_) <;> conv => whnf)
    | exact (rfl : (_ : Value) = _)
    | (simp only [*]; exact (rfl : (_ : Value) = _))
    | (simp [*]; done))

theorem c_law_FnExactAreaBelow_no1 {a b c d : Int} (h : isAngF a b c d = false) : Pure Try.prog n_laws_FnExactAreaBelow [pt a b, pt c d] (bb true) := by
  refine pure_of good fn_laws_FnExactAreaBelow rfl rfl ?_
  conv => whnf
  all_goals (repeat' first
    | (refine br_true ?_ ?_; (focus (simp; done)); conv => whnf)
    | (refine br_false ?_ ?_; (focus (simp; done)); conv => whnf)
    | (refine br_false (decide_eq_false (by omega)) ?_; conv => whnf)
    | (refine draw_call (by decide +kernel) ?_; conv => whnf)
    | (refine StoreK.mk rfl ?_; conv => whnf)
    | exact join_same
    | exact (by assumption : (_ : Bool) = (_ : Bool))
    | (refine br_true (by assumption) ?_; conv => whnf)
    | (refine br_false (by assumption) ?_; conv => whnf)
    | (refine br_not ?_; conv => whnf)
    | (refine br_code ?_; conv => whnf)
    | (with_reducible refine br_and ?_; conv => whnf)
    | (with_reducible refine br_or ?_; conv => whnf)
    | (refine br_eq2 ?_; conv => whnf)
    | (refine c_laws_toPoint.call ?_; conv => whnf)
    | (refine c_laws_toPoint.quiet ?_; conv => whnf)
    | (refine CallOK.useR (c_spec_AreaBelow_ok (by first | assumption | exact Row.lit rfl rfl | omega) (by first | assumption | exact Row.lit rfl rfl | omega)) [] rfl rfl rfl trivial (fun v_ mem_ hR => ?_); obtain ⟨rfl, rfl⟩ := hR; refine ⟨rfl, ?_⟩; conv => whnf)
    | (refine CallOK.useR (c_spec_AreaBelow_no2 (by first | assumption | exact Row.lit rfl rfl | omega) (by first | assumption | exact Row.lit rfl rfl | omega)) [] rfl rfl rfl trivial (fun v_ mem_ hR => ?_); obtain ⟨rfl, rfl⟩ := hR; refine ⟨rfl, ?_⟩; conv => whnf)
    | (refine CallOK.useR (c_spec_AreaBelow_no1 (by first | assumption | exact Row.lit rfl rfl | omega)) [] rfl rfl rfl trivial (fun v_ mem_ hR => ?_); obtain ⟨rfl, rfl⟩ := hR; refine ⟨rfl, ?_⟩; conv => whnf)
    | (refine CallOK.useR (c_impl_AreaBelow_ok (by first | assumption | exact Row.lit rfl rfl | omega) (by first | assumption | exact Row.lit rfl rfl | omega)) [] rfl rfl rfl trivial (fun v_ mem_ hR => ?_); obtain ⟨rfl, rfl⟩ := hR; refine ⟨rfl, ?_⟩; conv => whnf)
    | (refine CallOK.useR (c_impl_AreaBelow_no2 (by first | assumption | exact Row.lit rfl rfl | omega) (by first | assumption | exact Row.lit rfl rfl | omega)) [] rfl rfl rfl trivial (fun v_ mem_ hR => ?_); obtain ⟨rfl, rfl⟩ := hR; refine ⟨rfl, ?_⟩; conv => whnf)
    | (refine CallOK.useR (c_impl_AreaBelow_no1 (by first | assumption | exact Row.lit rfl rfl | omega)) [] rfl rfl rfl trivial (fun v_ mem_ hR => ?_); obtain ⟨rfl, rfl⟩ := hR; refine ⟨rfl, ?_⟩; conv => whnf)
    | (refine draw_auto (by decide +kernel) ?_; conv => whnf)
    | (refine draw_asg (by decide +kernel) ?_; conv => whnf)
    | (refine draw_st (by decide +kernel) ?_; conv => whnf)
    | (refine draw_call (by decide +kernel) ?_; conv => whnf)
    | (refine enter_same (loop_n 12 ?_); conv => whnf)
    | (refine next_same ?_; conv => whnf)
    | (refine mapK_row (by assumption) ?_; conv => whnf)
    | (refine mapK_plain (Plain.of rfl) ?_; conv => whnf)
    | (refine mapK_lit ?_; conv => whnf)
    | (refine br_split (fun _ => ?_) (fun _ => ?_) <;> conv => whnf)
    | exact (rfl : (_ : Value) = _)
    | (simp only [*]; exact (rfl : (_ : Value) = _))
    | (simp [*]; done))

theorem c_laws_FnExactAreaBelow {a b c d : Int} : Pure Try.prog n_laws_FnExactAreaBelow [pt a b, pt c d] (bb true) := by
  cases h : isAngF a b c d
  · exact c_law_FnExactAreaBelow_no1 h
  · cases hr : sailR a b c d with
    | none => exact c_law_FnExactAreaBelow_no2 (ang_ok h) (by simp [sailT, hr]) (by simp [sailT, hr])
    | some r => exact c_law_FnExactAreaBelow_ok (P := (a, b) :: r.1) (T := 0 :: r.2) (U := 2 :: r.2) (ang_ok h) (by simp only [sailT, hr, Option.map_some]) (by simp only [sailT, hr, Option.map_some])

end Go.Proofs.Ytjakdmfodnpkkaa
end

section
/-
  Contracts of functions of the program (printed by a program of this work; Lean checks each).
  Conditions: as each contract states.
-/
namespace Go.Proofs.Ytjakdmfodnpkkaa
open Go.Ev Go.RowKit
set_option maxRecDepth 100000
set_option linter.unusedVariables false
set_option linter.unusedSimpArgs false

theorem c_impl_SailPoints_ok {a b c d : Int} {P : List (Int × Int)} {T : List Int} (h : AngOk a b c d) (ht : sailT a b c d 0 = some (P, T)) : CallOK Try.prog n_impl_SailPoints [pt a b, pt c d] [] (fun v m_ => ∃ n c sp, Row (pl P) sp n c 2 ∧ n ≤ 1000001 ∧ v = t2 (.slice (some ⟨0, 0, none⟩) n c) (ii 0) ∧ m_ = [(pl P ++ sp, some t_impl_Point)]) := by
  have ha_ := ang_no h; refine callOK_ofF good fn_impl_SailPoints ?_
  conv => whnf
  all_goals (repeat' first
    | exact out_forget [_] ⟨_, _, _, hrow_, (by omega), rfl, rfl⟩ rfl (okB2_spec rfl) ⟨⟨⟨_, rfl, .plain rfl rfl (Row.all hrow_)⟩⟩, trivial⟩ rfl rfl
    | exact out_forget [] ⟨rfl, rfl⟩ rfl (okB2_spec rfl) trivial rfl rfl
    | (refine StoreK.mk rfl ?_; conv => whnf)
    | exact join_same
    | exact (by assumption : (_ : Bool) = (_ : Bool))
    | (refine br_true (by assumption) ?_; conv => whnf)
    | (refine br_false (by assumption) ?_; conv => whnf)
    | (refine br_not ?_; conv => whnf)
    | (refine br_code ?_; conv => whnf)
    | (with_reducible refine br_and ?_; conv => whnf)
    | (with_reducible refine br_or ?_; conv => whnf)
    | (refine br_eq2 ?_; conv => whnf)
    | (refine CallOK.useR (c_angleSail_ok (by first | assumption | exact Row.lit rfl rfl | omega) (by first | assumption | exact Row.lit rfl rfl | omega)) [] rfl rfl rfl trivial (fun v_ mem_ hR => ?_); obtain ⟨n_, c_, j_, k_, sp_, sq_, hrow_, hrow2_, hn_, rfl, rfl⟩ := hR; refine ⟨rfl, ?_⟩; conv => whnf)
    | (refine CallOK.useR (c_angleSail_no2 (by first | assumption | exact Row.lit rfl rfl | omega) (by first | assumption | exact Row.lit rfl rfl | omega)) [] rfl rfl rfl trivial (fun v_ mem_ hR => ?_); obtain ⟨rfl, rfl⟩ := hR; refine ⟨rfl, ?_⟩; conv => whnf)
    | (refine CallOK.useR (c_angleSail_no1 (by first | assumption | exact Row.lit rfl rfl | omega)) [] rfl rfl rfl trivial (fun v_ mem_ hR => ?_); obtain ⟨rfl, rfl⟩ := hR; refine ⟨rfl, ?_⟩; conv => whnf)
    | (refine draw_auto (by decide +kernel) ?_; conv => whnf)
    | (refine draw_asg (by decide +kernel) ?_; conv => whnf)
    | (refine draw_st (by decide +kernel) ?_; conv => whnf)
    | (refine draw_call (by decide +kernel) ?_; conv => whnf)
    | (refine enter_same (loop_n 12 ?_); conv => whnf)
    | (refine next_same ?_; conv => whnf)
    | (refine mapK_row (by assumption) ?_; conv => whnf)
    | (refine mapK_plain (Plain.of rfl) ?_; conv => whnf)
    | (refine mapK_lit ?_; conv => whnf)
    | (refine br_split (fun _ => ?_) (fun _ => ?_) <;> conv => whnf)
    | exact (rfl : (_ : Value) = _)
    | (simp only [*]; exact (rfl : (_ : Value) = _))
    | (simp [*]; done))

theorem c_impl_SailPoints_no2 {a b c d : Int} (h : AngOk a b c d) (ht : sailT a b c d 0 = none) : CallOK Try.prog n_impl_SailPoints [pt a b, pt c d] [] (fun v m_ => v = t2 (.slice none 0 0) (ii 3) ∧ m_ = []) := by
  have ha_ := ang_no h; refine callOK_ofF good fn_impl_SailPoints ?_
  conv => whnf
  all_goals (repeat' first
    | exact out_forget [] ⟨rfl, rfl⟩ rfl (okB2_spec rfl) trivial rfl rfl
    | (refine StoreK.mk rfl ?_; conv => whnf)
    | exact join_same
    | exact (by assumption : (_ : Bool) = (_ : Bool))
    | (refine br_true (by assumption) ?_; conv => whnf)
    | (refine br_false (by assumption) ?_; conv => whnf)
    | (refine br_not ?_; conv => whnf)
    | (refine br_code ?_; conv => whnf)
    | (with_reducible refine br_and ?_; conv => whnf)
    | (with_reducible refine br_or ?_; conv => whnf)
    | (refine br_eq2 ?_; conv => whnf)
    | (refine CallOK.useR (c_angleSail_ok (by first | assumption | exact Row.lit rfl rfl | omega) (by first | assumption | exact Row.lit rfl rfl | omega)) [] rfl rfl rfl trivial (fun v_ mem_ hR => ?_); obtain ⟨n_, c_, j_, k_, sp_, sq_, hrow_, hrow2_, hn_, rfl, rfl⟩ := hR; refine ⟨rfl, ?_⟩; conv => whnf)
    | (refine CallOK.useR (c_angleSail_no2 (by first | assumption | exact Row.lit rfl rfl | omega) (by first | assumption | exact Row.lit rfl rfl | omega)) [] rfl rfl rfl trivial (fun v_ mem_ hR => ?_); obtain ⟨rfl, rfl⟩ := hR; refine ⟨rfl, ?_⟩; conv => whnf)
    | (refine CallOK.useR (c_angleSail_no1 (by first | assumption | exact Row.lit rfl rfl | omega)) [] rfl rfl rfl trivial (fun v_ mem_ hR => ?_); obtain ⟨rfl, rfl⟩ := hR; refine ⟨rfl, ?_⟩; conv => whnf)
    | (refine draw_auto (by decide +kernel) ?_; conv => whnf)
    | (refine draw_asg (by decide +kernel) ?_; conv => whnf)
    | (refine draw_st (by decide +kernel) ?_; conv => whnf)
    | (refine draw_call (by decide +kernel) ?_; conv => whnf)
    | (refine enter_same (loop_n 12 ?_); conv => whnf)
    | (refine next_same ?_; conv => whnf)
    | (refine mapK_row (by assumption) ?_; conv => whnf)
    | (refine mapK_plain (Plain.of rfl) ?_; conv => whnf)
    | (refine mapK_lit ?_; conv => whnf)
    | (refine br_split (fun _ => ?_) (fun _ => ?_) <;> conv => whnf)
    | exact (rfl : (_ : Value) = _)
    | (simp only [*]; exact (rfl : (_ : Value) = _))
    | (simp [*]; done))

theorem c_impl_SailPoints_no1 {a b c d : Int} (h : isAngF a b c d = false) : CallOK Try.prog n_impl_SailPoints [pt a b, pt c d] [] (fun v m_ => v = t2 (.slice none 0 0) (ii 1) ∧ m_ = []) := by
  refine callOK_ofF good fn_impl_SailPoints ?_
  conv => whnf
  all_goals (repeat' first
    | exact out_forget [] ⟨rfl, rfl⟩ rfl (okB2_spec rfl) trivial rfl rfl
    | (refine StoreK.mk rfl ?_; conv => whnf)
    | exact join_same
    | exact (by assumption : (_ : Bool) = (_ : Bool))
    | (refine br_true (by assumption) ?_; conv => whnf)
    | (refine br_false (by assumption) ?_; conv => whnf)
    | (refine br_not ?_; conv => whnf)
    | (refine br_code ?_; conv => whnf)
    | (with_reducible refine br_and ?_; conv => whnf)
    | (with_reducible refine br_or ?_; conv => whnf)
    | (refine br_eq2 ?_; conv => whnf)
    | (refine CallOK.useR (c_angleSail_ok (by first | assumption | exact Row.lit rfl rfl | omega) (by first | assumption | exact Row.lit rfl rfl | omega)) [] rfl rfl rfl trivial (fun v_ mem_ hR => ?_); obtain ⟨n_, c_, j_, k_, sp_, sq_, hrow_, hrow2_, hn_, rfl, rfl⟩ := hR; refine ⟨rfl, ?_⟩; conv => whnf)
    | (refine CallOK.useR (c_angleSail_no2 (by first | assumption | exact Row.lit rfl rfl | omega) (by first | assumption | exact Row.lit rfl rfl | omega)) [] rfl rfl rfl trivial (fun v_ mem_ hR => ?_); obtain ⟨rfl, rfl⟩ := hR; refine ⟨rfl, ?_⟩; conv => whnf)
    | (refine CallOK.useR (c_angleSail_no1 (by first | assumption | exact Row.lit rfl rfl | omega)) [] rfl rfl rfl trivial (fun v_ mem_ hR => ?_); obtain ⟨rfl, rfl⟩ := hR; refine ⟨rfl, ?_⟩; conv => whnf)
    | (refine draw_auto (by decide +kernel) ?_; conv => whnf)
    | (refine draw_asg (by decide +kernel) ?_; conv => whnf)
    | (refine draw_st (by decide +kernel) ?_; conv => whnf)
    | (refine draw_call (by decide +kernel) ?_; conv => whnf)
    | (refine enter_same (loop_n 12 ?_); conv => whnf)
    | (refine next_same ?_; conv => whnf)
    | (refine mapK_row (by assumption) ?_; conv => whnf)
    | (refine mapK_plain (Plain.of rfl) ?_; conv => whnf)
    | (refine mapK_lit ?_; conv => whnf)
    | (refine br_split (fun _ => ?_) (fun _ => ?_) <;> conv => whnf)
    | exact (rfl : (_ : Value) = _)
    | (simp only [*]; exact (rfl : (_ : Value) = _))
    | (simp [*]; done))

theorem c_spec_SailPoints_ok {a b c d : Int} {P : List (Int × Int)} {T : List Int} (h : AngOk a b c d) (ht : sailT a b c d 2 = some (P, T)) : CallOK Try.prog n_spec_SailPoints [pt a b, pt c d] [] (fun v m_ => ∃ n c sp, Row (pl P) sp n c 2 ∧ n ≤ 1000001 ∧ v = t2 (.slice (some ⟨0, 0, none⟩) n c) (ii 0) ∧ m_ = [(pl P ++ sp, some t_impl_Point)]) := by
  have ha_ := ang_no h; refine callOK_ofF good fn_spec_SailPoints ?_
  conv => whnf
  all_goals (repeat' first
    | exact out_forget [_] ⟨_, _, _, hrow_, (by omega), rfl, rfl⟩ rfl (okB2_spec rfl) ⟨⟨⟨_, rfl, .plain rfl rfl (Row.all hrow_)⟩⟩, trivial⟩ rfl rfl
    | exact out_forget [] ⟨rfl, rfl⟩ rfl (okB2_spec rfl) trivial rfl rfl
    | (refine StoreK.mk rfl ?_; conv => whnf)
    | exact join_same
    | exact (by assumption : (_ : Bool) = (_ : Bool))
    | (refine br_true (by assumption) ?_; conv => whnf)
    | (refine br_false (by assumption) ?_; conv => whnf)
    | (refine br_not ?_; conv => whnf)
    | (refine br_code ?_; conv => whnf)
    | (with_reducible refine br_and ?_; conv => whnf)
    | (with_reducible refine br_or ?_; conv => whnf)
    | (refine br_eq2 ?_; conv => whnf)
    | (refine CallOK.useR (c_l03Code_ok (by first | assumption | exact Row.lit rfl rfl | omega) (by first | assumption | exact Row.lit rfl rfl | omega)) [] rfl rfl rfl trivial (fun v_ mem_ hR => ?_); obtain ⟨n_, c_, j_, k_, sp_, sq_, hrow_, hrow2_, hn_, rfl, rfl⟩ := hR; refine ⟨rfl, ?_⟩; conv => whnf)
    | (refine CallOK.useR (c_l03Code_no2 (by first | assumption | exact Row.lit rfl rfl | omega) (by first | assumption | exact Row.lit rfl rfl | omega)) [] rfl rfl rfl trivial (fun v_ mem_ hR => ?_); obtain ⟨rfl, rfl⟩ := hR; refine ⟨rfl, ?_⟩; conv => whnf)
    | (refine CallOK.useR (c_l03Code_no1 (by first | assumption | exact Row.lit rfl rfl | omega)) [] rfl rfl rfl trivial (fun v_ mem_ hR => ?_); obtain ⟨rfl, rfl⟩ := hR; refine ⟨rfl, ?_⟩; conv => whnf)
    | (refine draw_auto (by decide +kernel) ?_; conv => whnf)
    | (refine draw_asg (by decide +kernel) ?_; conv => whnf)
    | (refine draw_st (by decide +kernel) ?_; conv => whnf)
    | (refine draw_call (by decide +kernel) ?_; conv => whnf)
    | (refine enter_same (loop_n 12 ?_); conv => whnf)
    | (refine next_same ?_; conv => whnf)
    | (refine mapK_row (by assumption) ?_; conv => whnf)
    | (refine mapK_plain (Plain.of rfl) ?_; conv => whnf)
    | (refine mapK_lit ?_; conv => whnf)
    | (refine br_split (fun _ => ?_) (fun _ => ?_) <;> conv => whnf)
    | exact (rfl : (_ : Value) = _)
    | (simp only [*]; exact (rfl : (_ : Value) = _))
    | (simp [*]; done))

theorem c_spec_SailPoints_no2 {a b c d : Int} (h : AngOk a b c d) (ht : sailT a b c d 2 = none) : CallOK Try.prog n_spec_SailPoints [pt a b, pt c d] [] (fun v m_ => v = t2 (.slice none 0 0) (ii 3) ∧ m_ = []) := by
  have ha_ := ang_no h; refine callOK_ofF good fn_spec_SailPoints ?_
  conv => whnf
  all_goals (repeat' first
    | exact out_forget [] ⟨rfl, rfl⟩ rfl (okB2_spec rfl) trivial rfl rfl
    | (refine StoreK.mk rfl ?_; conv => whnf)
    | exact join_same
    | exact (by assumption : (_ : Bool) = (_ : Bool))
    | (refine br_true (by assumption) ?_; conv => whnf)
    | (refine br_false (by assumption) ?_; conv => whnf)
    | (refine br_not ?_; conv => whnf)
    | (refine br_code ?_; conv => whnf)
    | (with_reducible refine br_and ?_; conv => whnf)
    | (with_reducible refine br_or ?_; conv => whnf)
    | (refine br_eq2 ?_; conv => whnf)
    | (refine CallOK.useR (c_l03Code_ok (by first | assumption | exact Row.lit rfl rfl | omega) (by first | assumption | exact Row.lit rfl rfl | omega)) [] rfl rfl rfl trivial (fun v_ mem_ hR => ?_); obtain ⟨n_, c_, j_, k_, sp_, sq_, hrow_, hrow2_, hn_, rfl, rfl⟩ := hR; refine ⟨rfl, ?_⟩; conv => whnf)
    | (refine CallOK.useR (c_l03Code_no2 (by first | assumption | exact Row.lit rfl rfl | omega) (by first | assumption | exact Row.lit rfl rfl | omega)) [] rfl rfl rfl trivial (fun v_ mem_ hR => ?_); obtain ⟨rfl, rfl⟩ := hR; refine ⟨rfl, ?_⟩; conv => whnf)
    | (refine CallOK.useR (c_l03Code_no1 (by first | assumption | exact Row.lit rfl rfl | omega)) [] rfl rfl rfl trivial (fun v_ mem_ hR => ?_); obtain ⟨rfl, rfl⟩ := hR; refine ⟨rfl, ?_⟩; conv => whnf)
    | (refine draw_auto (by decide +kernel) ?_; conv => whnf)
    | (refine draw_asg (by decide +kernel) ?_; conv => whnf)
    | (refine draw_st (by decide +kernel) ?_; conv => whnf)
    | (refine draw_call (by decide +kernel) ?_; conv => whnf)
    | (refine enter_same (loop_n 12 ?_); conv => whnf)
    | (refine next_same ?_; conv => whnf)
    | (refine mapK_row (by assumption) ?_; conv => whnf)
    | (refine mapK_plain (Plain.of rfl) ?_; conv => whnf)
    | (refine mapK_lit ?_; conv => whnf)
    | (refine br_split (fun _ => ?_) (fun _ => ?_) <;> conv => whnf)
    | exact (rfl : (_ : Value) = _)
    | (simp only [*]; exact (rfl : (_ : Value) = _))
    | (simp [*]; done))

theorem c_spec_SailPoints_no1 {a b c d : Int} (h : isAngF a b c d = false) : CallOK Try.prog n_spec_SailPoints [pt a b, pt c d] [] (fun v m_ => v = t2 (.slice none 0 0) (ii 1) ∧ m_ = []) := by
  refine callOK_ofF good fn_spec_SailPoints ?_
  conv => whnf
  all_goals (repeat' first
    | exact out_forget [] ⟨rfl, rfl⟩ rfl (okB2_spec rfl) trivial rfl rfl
    | (refine StoreK.mk rfl ?_; conv => whnf)
    | exact join_same
    | exact (by assumption : (_ : Bool) = (_ : Bool))
    | (refine br_true (by assumption) ?_; conv => whnf)
    | (refine br_false (by assumption) ?_; conv => whnf)
    | (refine br_not ?_; conv => whnf)
    | (refine br_code ?_; conv => whnf)
    | (with_reducible refine br_and ?_; conv => whnf)
    | (with_reducible refine br_or ?_; conv => whnf)
    | (refine br_eq2 ?_; conv => whnf)
    | (refine CallOK.useR (c_l03Code_ok (by first | assumption | exact Row.lit rfl rfl | omega) (by first | assumption | exact Row.lit rfl rfl | omega)) [] rfl rfl rfl trivial (fun v_ mem_ hR => ?_); obtain ⟨n_, c_, j_, k_, sp_, sq_, hrow_, hrow2_, hn_, rfl, rfl⟩ := hR; refine ⟨rfl, ?_⟩; conv => whnf)
    | (refine CallOK.useR (c_l03Code_no2 (by first | assumption | exact Row.lit rfl rfl | omega) (by first | assumption | exact Row.lit rfl rfl | omega)) [] rfl rfl rfl trivial (fun v_ mem_ hR => ?_); obtain ⟨rfl, rfl⟩ := hR; refine ⟨rfl, ?_⟩; conv => whnf)
    | (refine CallOK.useR (c_l03Code_no1 (by first | assumption | exact Row.lit rfl rfl | omega)) [] rfl rfl rfl trivial (fun v_ mem_ hR => ?_); obtain ⟨rfl, rfl⟩ := hR; refine ⟨rfl, ?_⟩; conv => whnf)
    | (refine draw_auto (by decide +kernel) ?_; conv => whnf)
    | (refine draw_asg (by decide +kernel) ?_; conv => whnf)
    | (refine draw_st (by decide +kernel) ?_; conv => whnf)
    | (refine draw_call (by decide +kernel) ?_; conv => whnf)
    | (refine enter_same (loop_n 12 ?_); conv => whnf)
    | (refine next_same ?_; conv => whnf)
    | (refine mapK_row (by assumption) ?_; conv => whnf)
    | (refine mapK_plain (Plain.of rfl) ?_; conv => whnf)
    | (refine mapK_lit ?_; conv => whnf)
    | (refine br_split (fun _ => ?_) (fun _ => ?_) <;> conv => whnf)
    | exact (rfl : (_ : Value) = _)
    | (simp only [*]; exact (rfl : (_ : Value) = _))
    | (simp [*]; done))

theorem c_law_FnExactSailPoints_ok {a b c d : Int} {P : List (Int × Int)} {T U : List Int} (h : AngOk a b c d) (ht : sailT a b c d 0 = some (P, T)) (ht2 : sailT a b c d 2 = some (P, U)) : Pure Try.prog n_laws_FnExactSailPoints [pt a b, pt c d] (bb true) := by
  refine pure_of good fn_laws_FnExactSailPoints rfl rfl ?_
  conv => whnf
  all_goals (repeat' first
    | (refine br_true ?_ ?_; (focus (simp; done)); conv => whnf)
    | (refine br_false ?_ ?_; (focus (simp; done)); conv => whnf)
    | (refine br_false (decide_eq_false (by omega)) ?_; conv => whnf)
    | (refine draw_call (by decide +kernel) ?_; conv => whnf)
    | (refine StoreK.mk rfl ?_; conv => whnf)
    | exact join_same
    | exact (by assumption : (_ : Bool) = (_ : Bool))
    | (refine br_true (by assumption) ?_; conv => whnf)
    | (refine br_false (by assumption) ?_; conv => whnf)
    | (refine br_not ?_; conv => whnf)
    | (refine br_code ?_; conv => whnf)
    | (with_reducible refine br_and ?_; conv => whnf)
    | (with_reducible refine br_or ?_; conv => whnf)
    | (refine br_eq2 ?_; conv => whnf)
    | (refine c_laws_toPoint.call ?_; conv => whnf)
    | (refine c_laws_toPoint.quiet ?_; conv => whnf)
    | (refine CallOK.useR (c_spec_SailPoints_ok (by first | assumption | exact Row.lit rfl rfl | omega) (by first | assumption | exact Row.lit rfl rfl | omega)) [] rfl rfl rfl trivial (fun v_ mem_ hR => ?_); obtain ⟨n_, c_, sp_, hrow_, hn_, rfl, rfl⟩ := hR; refine ⟨rfl, ?_⟩; conv => whnf)
    | (refine CallOK.useR (c_spec_SailPoints_no2 (by first | assumption | exact Row.lit rfl rfl | omega) (by first | assumption | exact Row.lit rfl rfl | omega)) [] rfl rfl rfl trivial (fun v_ mem_ hR => ?_); obtain ⟨rfl, rfl⟩ := hR; refine ⟨rfl, ?_⟩; conv => whnf)
    | (refine CallOK.useR (c_spec_SailPoints_no1 (by first | assumption | exact Row.lit rfl rfl | omega)) [] rfl rfl rfl trivial (fun v_ mem_ hR => ?_); obtain ⟨rfl, rfl⟩ := hR; refine ⟨rfl, ?_⟩; conv => whnf)
    | (refine CallOK.useR (c_impl_SailPoints_ok (by first | assumption | exact Row.lit rfl rfl | omega) (by first | assumption | exact Row.lit rfl rfl | omega)) [] rfl rfl rfl trivial (fun v_ mem_ hR => ?_); obtain ⟨n_, c_, sp_, hrow_, hn_, rfl, rfl⟩ := hR; refine ⟨rfl, ?_⟩; conv => whnf)
    | (refine CallOK.useR (c_impl_SailPoints_no2 (by first | assumption | exact Row.lit rfl rfl | omega) (by first | assumption | exact Row.lit rfl rfl | omega)) [] rfl rfl rfl trivial (fun v_ mem_ hR => ?_); obtain ⟨rfl, rfl⟩ := hR; refine ⟨rfl, ?_⟩; conv => whnf)
    | (refine CallOK.useR (c_impl_SailPoints_no1 (by first | assumption | exact Row.lit rfl rfl | omega)) [] rfl rfl rfl trivial (fun v_ mem_ hR => ?_); obtain ⟨rfl, rfl⟩ := hR; refine ⟨rfl, ?_⟩; conv => whnf)
    | (refine CallOK.useR (c_laws_eqPointS (by first | assumption | exact Row.lit rfl rfl | omega) (by first | assumption | exact Row.lit rfl rfl | omega) (by first | assumption | exact Row.lit rfl rfl | omega)) [_, _] rfl rfl rfl ⟨⟨⟨_, rfl, .plain rfl (fun _ h_ => by first | exact h_ | cases h_) (by first | exact Plain.of rfl | exact Row.all (by assumption))⟩⟩, ⟨⟨_, rfl, .plain rfl (fun _ h_ => by first | exact h_ | cases h_) (by first | exact Plain.of rfl | exact Row.all (by assumption))⟩⟩, trivial⟩ (fun v_ mem_ hR => ?_); obtain ⟨rfl, rfl⟩ := hR; refine ⟨rfl, ?_⟩; conv => whnf)
    | (refine c_eqPointS_nil.call ?_; conv => whnf)
    | (refine c_eqPointS_nil.quiet ?_; conv => whnf)
    | (refine CallOK.useR (c_laws_markPointS (by first | assumption | exact Row.lit rfl rfl | omega) (by first | assumption | exact Row.lit rfl rfl | omega) (by first | assumption | exact Row.lit rfl rfl | omega)) [_] rfl rfl rfl ⟨⟨⟨_, rfl, .plain rfl (fun _ h_ => by first | exact h_ | cases h_) (by first | exact Plain.of rfl | exact Row.all (by assumption))⟩⟩, trivial⟩ (fun v_ mem_ hR => ?_); obtain ⟨sq_, hrow_, rfl, rfl⟩ := hR; refine ⟨rfl, ?_⟩; conv => whnf)
    | (refine c_markPointS_nil.call ?_; conv => whnf)
    | (refine c_markPointS_nil.quiet ?_; conv => whnf)
    | (refine CallOK.useR (c_laws_heldPointS (by first | assumption | exact Row.lit rfl rfl | omega) (by first | assumption | exact Row.lit rfl rfl | omega) (by first | assumption | exact Row.lit rfl rfl | omega)) [_] rfl rfl rfl ⟨⟨⟨_, rfl, .plain rfl (fun _ h_ => by first | exact h_ | cases h_) (by first | exact Plain.of rfl | exact Row.all (by assumption))⟩⟩, trivial⟩ (fun v_ mem_ hR => ?_); obtain ⟨rfl, rfl⟩ := hR; refine ⟨rfl, ?_⟩; conv => whnf)
    | (refine c_heldPointS_nil.call ?_; conv => whnf)
    | (refine c_heldPointS_nil.quiet ?_; conv => whnf)
    | (refine draw_auto (by decide +kernel) ?_; conv => whnf)
    | (refine draw_asg (by decide +kernel) ?_; conv => whnf)
    | (refine draw_st (by decide +kernel) ?_; conv => whnf)
    | (refine draw_call (by decide +kernel) ?_; conv => whnf)
    | (refine enter_same (loop_n 12 ?_); conv => whnf)
    | (refine next_same ?_; conv => whnf)
    | (refine mapK_row (by assumption) ?_; conv => whnf)
    | (refine mapK_plain (Plain.of rfl) ?_; conv => whnf)
    | (refine mapK_lit ?_; conv => whnf)
    | (refine br_split (fun _ => ?_) (fun _ => ?_) <;> conv => whnf)
    | exact (rfl : (_ : Value) = _)
    | (simp only [*]; exact (rfl : (_ : Value) = _))
    | (simp [*]; done))

theorem c_law_FnExactSailPoints_no2 {a b c d : Int} (h : AngOk a b c d) (ht : sailT a b c d 0 = none) (ht2 : sailT a b c d 2 = none) : Pure Try.prog n_laws_FnExactSailPoints [pt a b, pt c d] (bb true) := by
  refine pure_of good fn_laws_FnExactSailPoints rfl rfl ?_
  conv => whnf
  all_goals (repeat' first
    | (refine br_true ?_ ?_; (focus (simp; done)); conv => whnf)
    | (refine br_false ?_ ?_; (focus (simp; done)); conv => whnf)
    | (refine br_false (decide_eq_false (by omega)) ?_; conv => whnf)
    | (refine draw_call (by decide +kernel) ?_; conv => whnf)
    | (refine StoreK.mk rfl ?_; conv => whnf)
    | exact join_same
    | exact (by assumption : (_ : Bool) = (_ : Bool))
    | (refine br_true (by assumption) ?_; conv => whnf)
    | (refine br_false (by assumption) ?_; conv => whnf)
    | (refine br_not ?_; conv => whnf)
    | (refine br_code ?_; conv => whnf)
    | (with_reducible refine br_and ?_; conv => whnf)
    | (with_reducible refine br_or ?_; conv => whnf)
    | (refine br_eq2 ?_; conv => whnf)
    | (refine c_laws_toPoint.call ?_; conv => whnf)
    | (refine c_laws_toPoint.quiet ?_; conv => whnf)
    | (refine CallOK.useR (c_spec_SailPoints_ok (by first | assumption | exact Row.lit rfl rfl | omega) (by first | assumption | exact Row.lit rfl rfl | omega)) [] rfl rfl rfl trivial (fun v_ mem_ hR => ?_); obtain ⟨n_, c_, sp_, hrow_, hn_, rfl, rfl⟩ := hR; refine ⟨rfl, ?_⟩; conv => whnf)
    | (refine CallOK.useR (c_spec_SailPoints_no2 (by first | assumption | exact Row.lit rfl rfl | omega) (by first | assumption | exact Row.lit rfl rfl | omega)) [] rfl rfl rfl trivial (fun v_ mem_ hR => ?_); obtain ⟨rfl, rfl⟩ := hR; refine ⟨rfl, ?_⟩; conv => whnf)
    | (refine CallOK.useR (c_spec_SailPoints_no1 (by first | assumption | exact Row.lit rfl rfl | omega)) [] rfl rfl rfl trivial (fun v_ mem_ hR => ?_); obtain ⟨rfl, rfl⟩ := hR; refine ⟨rfl, ?_⟩; conv => whnf)
    | (refine CallOK.useR (c_impl_SailPoints_ok (by first | assumption | exact Row.lit rfl rfl | omega) (by first | assumption | exact Row.lit rfl rfl | omega)) [] rfl rfl rfl trivial (fun v_ mem_ hR => ?_); obtain ⟨n_, c_, sp_, hrow_, hn_, rfl, rfl⟩ := hR; refine ⟨rfl, ?_⟩; conv => whnf)
    | (refine CallOK.useR (c_impl_SailPoints_no2 (by first | assumption | exact Row.lit rfl rfl | omega) (by first | assumption | exact Row.lit rfl rfl | omega)) [] rfl rfl rfl trivial (fun v_ mem_ hR => ?_); obtain ⟨rfl, rfl⟩ := hR; refine ⟨rfl, ?_⟩; conv => whnf)
    | (refine CallOK.useR (c_impl_SailPoints_no1 (by first | assumption | exact Row.lit rfl rfl | omega)) [] rfl rfl rfl trivial (fun v_ mem_ hR => ?_); obtain ⟨rfl, rfl⟩ := hR; refine ⟨rfl, ?_⟩; conv => whnf)
    | (refine CallOK.useR (c_laws_eqPointS (by first | assumption | exact Row.lit rfl rfl | omega) (by first | assumption | exact Row.lit rfl rfl | omega) (by first | assumption | exact Row.lit rfl rfl | omega)) [_, _] rfl rfl rfl ⟨⟨⟨_, rfl, .plain rfl (fun _ h_ => by first | exact h_ | cases h_) (by first | exact Plain.of rfl | exact Row.all (by assumption))⟩⟩, ⟨⟨_, rfl, .plain rfl (fun _ h_ => by first | exact h_ | cases h_) (by first | exact Plain.of rfl | exact Row.all (by assumption))⟩⟩, trivial⟩ (fun v_ mem_ hR => ?_); obtain ⟨rfl, rfl⟩ := hR; refine ⟨rfl, ?_⟩; conv => whnf)
    | (refine c_eqPointS_nil.call ?_; conv => whnf)
    | (refine c_eqPointS_nil.quiet ?_; conv => whnf)
    | (refine CallOK.useR (c_laws_markPointS (by first | assumption | exact Row.lit rfl rfl | omega) (by first | assumption | exact Row.lit rfl rfl | omega) (by first | assumption | exact Row.lit rfl rfl | omega)) [_] rfl rfl rfl ⟨⟨⟨_, rfl, .plain rfl (fun _ h_ => by first | exact h_ | cases h_) (by first | exact Plain.of rfl | exact Row.all (by assumption))⟩⟩, trivial⟩ (fun v_ mem_ hR => ?_); obtain ⟨sq_, hrow_, rfl, rfl⟩ := hR; refine ⟨rfl, ?_⟩; conv => whnf)
    | (refine c_markPointS_nil.call ?_; conv => whnf)
    | (refine c_markPointS_nil.quiet ?_; conv => whnf)
    | (refine CallOK.useR (c_laws_heldPointS (by first | assumption | exact Row.lit rfl rfl | omega) (by first | assumption | exact Row.lit rfl rfl | omega) (by first | assumption | exact Row.lit rfl rfl | omega)) [_] rfl rfl rfl ⟨⟨⟨_, rfl, .plain rfl (fun _ h_ => by first | exact h_ | cases h_) (by first | exact Plain.of rfl | exact Row.all (by assumption))⟩⟩, trivial⟩ (fun v_ mem_ hR => ?_); obtain ⟨rfl, rfl⟩ := hR; refine ⟨rfl, ?_⟩; conv => whnf)
    | (refine c_heldPointS_nil.call ?_; conv => whnf)
    | (refine c_heldPointS_nil.quiet ?_; conv => whnf)
    | (refine draw_auto (by decide +kernel) ?_; conv => whnf)
    | (refine draw_asg (by decide +kernel) ?_; conv => whnf)
    | (refine draw_st (by decide +kernel) ?_; conv => whnf)
    | (refine draw_call (by decide +kernel) ?_; conv => whnf)
    | (refine enter_same (loop_n 12 ?_); conv => whnf)
    | (refine next_same ?_; conv => whnf)
    | (refine mapK_row (by assumption) ?_; conv => whnf)
    | (refine mapK_plain (Plain.of rfl) ?_; conv => whnf)
    | (refine mapK_lit ?_; conv => whnf)
    | (refine br_split (fun _ => ?_) (fun _ => ?_) <;> conv => whnf)
    | exact (rfl : (_ : Value) = _)
    | (simp only [*]; exact (rfl : (_ : Value) = _))
    | (simp [*]; done))

theorem c_law_FnExactSailPoints_no1 {a b c d : Int} (h : isAngF a b c d = false) : Pure Try.prog n_laws_FnExactSailPoints [pt a b, pt c d] (bb true) := by
  refine pure_of good fn_laws_FnExactSailPoints rfl rfl ?_
  conv => whnf
  all_goals (repeat' first
    | (refine br_true ?_ ?_; (focus (simp; done)); conv => whnf)
    | (refine br_false ?_ ?_; (focus (simp; done)); conv => whnf)
    | (refine br_false (decide_eq_false (by omega)) ?_; conv => whnf)
    | (refine draw_call (by decide +kernel) ?_; conv => whnf)
    | (refine StoreK.mk rfl ?_; conv => whnf)
    | exact join_same
    | exact (by assumption : (_ : Bool) = (_ : Bool))
    | (refine br_true (by assumption) ?_; conv => whnf)
    | (refine br_false (by assumption) ?_; conv => whnf)
    | (refine br_not ?_; conv => whnf)
    | (refine br_code ?_; conv => whnf)
    | (with_reducible refine br_and ?_; conv => whnf)
    | (with_reducible refine br_or ?_; conv => whnf)
    | (refine br_eq2 ?_; conv => whnf)
    | (refine c_laws_toPoint.call ?_; conv => whnf)
    | (refine c_laws_toPoint.quiet ?_; conv => whnf)
    | (refine CallOK.useR (c_spec_SailPoints_ok (by first | assumption | exact Row.lit rfl rfl | omega) (by first | assumption | exact Row.lit rfl rfl | omega)) [] rfl rfl rfl trivial (fun v_ mem_ hR => ?_); obtain ⟨n_, c_, sp_, hrow_, hn_, rfl, rfl⟩ := hR; refine ⟨rfl, ?_⟩; conv => whnf)
    | (refine CallOK.useR (c_spec_SailPoints_no2 (by first | assumption | exact Row.lit rfl rfl | omega) (by first | assumption | exact Row.lit rfl rfl | omega)) [] rfl rfl rfl trivial (fun v_ mem_ hR => ?_); obtain ⟨rfl, rfl⟩ := hR; refine ⟨rfl, ?_⟩; conv => whnf)
    | (refine CallOK.useR (c_spec_SailPoints_no1 (by first | assumption | exact Row.lit rfl rfl | omega)) [] rfl rfl rfl trivial (fun v_ mem_ hR => ?_); obtain ⟨rfl, rfl⟩ := hR; refine ⟨rfl, ?_⟩; conv => whnf)
    | (refine CallOK.useR (c_impl_SailPoints_ok (by first | assumption | exact Row.lit rfl rfl | omega) (by first | assumption | exact Row.lit rfl rfl | omega)) [] rfl rfl rfl trivial (fun v_ mem_ hR => ?_); obtain ⟨n_, c_, sp_, hrow_, hn_, rfl, rfl⟩ := hR; refine ⟨rfl, ?_⟩; conv => whnf)
    | (refine CallOK.useR (c_impl_SailPoints_no2 (by first | assumption | exact Row.lit rfl rfl | omega) (by first | assumption | exact Row.lit rfl rfl | omega)) [] rfl rfl rfl trivial (fun v_ mem_ hR => ?_); obtain ⟨rfl, rfl⟩ := hR; refine ⟨rfl, ?_⟩; conv => whnf)
    | (refine CallOK.useR (c_impl_SailPoints_no1 (by first | assumption | exact Row.lit rfl rfl | omega)) [] rfl rfl rfl trivial (fun v_ mem_ hR => ?_); obtain ⟨rfl, rfl⟩ := hR; refine ⟨rfl, ?_⟩; conv => whnf)
    | (refine CallOK.useR (c_laws_eqPointS (by first | assumption | exact Row.lit rfl rfl | omega) (by first | assumption | exact Row.lit rfl rfl | omega) (by first | assumption | exact Row.lit rfl rfl | omega)) [_, _] rfl rfl rfl ⟨⟨⟨_, rfl, .plain rfl (fun _ h_ => by first | exact h_ | cases h_) (by first | exact Plain.of rfl | exact Row.all (by assumption))⟩⟩, ⟨⟨_, rfl, .plain rfl (fun _ h_ => by first | exact h_ | cases h_) (by first | exact Plain.of rfl | exact Row.all (by assumption))⟩⟩, trivial⟩ (fun v_ mem_ hR => ?_); obtain ⟨rfl, rfl⟩ := hR; refine ⟨rfl, ?_⟩; conv => whnf)
    | (refine c_eqPointS_nil.call ?_; conv => whnf)
    | (refine c_eqPointS_nil.quiet ?_; conv => whnf)
    | (refine CallOK.useR (c_laws_markPointS (by first | assumption | exact Row.lit rfl rfl | omega) (by first | assumption | exact Row.lit rfl rfl | omega) (by first | assumption | exact Row.lit rfl rfl | omega)) [_] rfl rfl rfl ⟨⟨⟨_, rfl, .plain rfl (fun _ h_ => by first | exact h_ | cases h_) (by first | exact Plain.of rfl | exact Row.all (by assumption))⟩⟩, trivial⟩ (fun v_ mem_ hR => ?_); obtain ⟨sq_, hrow_, rfl, rfl⟩ := hR; refine ⟨rfl, ?_⟩; conv => whnf)
    | (refine c_markPointS_nil.call ?_; conv => whnf)
    | (refine c_markPointS_nil.quiet ?_; conv => whnf)
    | (refine CallOK.useR (c_laws_heldPointS (by first | assumption | exact Row.lit rfl rfl | omega) (by first | assumption | exact Row.lit rfl rfl | omega) (by first | assumption | exact Row.lit rfl rfl | omega)) [_] rfl rfl rfl ⟨⟨⟨_, rfl, .plain rfl (fun _ h_ => by first | exact h_ | cases h_) (by first | exact Plain.of rfl | exact Row.all (by assumption))⟩⟩, trivial⟩ (fun v_ mem_ hR => ?_); obtain ⟨rfl, rfl⟩ := hR; refine ⟨rfl, ?_⟩; conv => whnf)
    | (refine c_heldPointS_nil.call ?_; conv => whnf)
    | (refine c_heldPointS_nil.quiet ?_; conv => whnf)
    | (refine draw_auto (by decide +kernel) ?_; conv => whnf)
    | (refine draw_asg (by decide +kernel) ?_; conv => whnf)
    | (refine draw_st (by decide +kernel) ?_; conv => whnf)
    | (refine draw_call (by decide +kernel) ?_; conv => whnf)
    | (refine enter_same (loop_n 12 ?_); conv => whnf)
    | (refine next_same ?_; conv => whnf)
    | (refine mapK_row (by assumption) ?_; conv => whnf)
    | (refine mapK_plain (Plain.of rfl) ?_; conv => whnf)
    | (refine mapK_lit ?_; conv => whnf)
    | (refine br_split (fun _ => ?_) (fun _ => ?_) <;> conv => whnf)
    | exact (rfl : (_ : Value) = _)
    | (simp only [*]; exact (rfl : (_ : Value) = _))
    | (simp [*]; done))

theorem c_laws_FnExactSailPoints {a b c d : Int} : Pure Try.prog n_laws_FnExactSailPoints [pt a b, pt c d] (bb true) := by
  cases h : isAngF a b c d
  · exact c_law_FnExactSailPoints_no1 h
  · cases hr : sailR a b c d with
    | none => exact c_law_FnExactSailPoints_no2 (ang_ok h) (by simp [sailT, hr]) (by simp [sailT, hr])
    | some r => exact c_law_FnExactSailPoints_ok (P := (a, b) :: r.1) (T := 0 :: r.2) (U := 2 :: r.2) (ang_ok h) (by simp only [sailT, hr, Option.map_some]) (by simp only [sailT, hr, Option.map_some])

end Go.Proofs.Ytjakdmfodnpkkaa
end

section
/-
  Contracts of functions of the program (printed by a program of this work; Lean checks each).
  Conditions: as each contract states.
-/
namespace Go.Proofs.Ytjakdmfodnpkkaa
open Go.Ev Go.RowKit
set_option maxRecDepth 100000
set_option linter.unusedVariables false
set_option linter.unusedSimpArgs false

theorem c_vertices {P : List (Int × Int)} {t : List Int} {sp sq : List Value} {n c j k : Nat} (h1 : Row (pl P) sp n c 2) (h2 : Row (il t) sq j k 1) (hj : j ≤ 2000) : CallOK Try.prog n_impl_sail_vertices [.pointer (some ⟨0, 0, none⟩)] [([.slice (some ⟨1, 0, none⟩) n c, .slice (some ⟨2, 0, none⟩) j k], none), (pl P ++ sp, none), (il t ++ sq, none)] (fun v m_ => ∃ n2 c2 s2, Row (il ((vertTo t t.length).map Int.ofNat)) s2 n2 c2 1 ∧ n2 ≤ 2000 ∧ v = .slice (some ⟨3, 0, none⟩) n2 c2 ∧ m_ = [([.slice (some ⟨1, 0, none⟩) n c, .slice (some ⟨2, 0, none⟩) j k], none), (pl P ++ sp, none), (il t ++ sq, none), (il ((vertTo t t.length).map Int.ofNat) ++ s2, some 3)]) := by
  obtain rfl := row_il h2; refine callOK_ofF good fn_impl_sail_vertices ?_
  conv => whnf
  all_goals (repeat' first
    | (refine enter_forget [3] (loop_rec (fun (s : Int × (List Value) × (List Value) × Nat × Nat) => match s with | (i, L, s2, n2, c2) => [.pointer (some ⟨0, 0, none⟩), wild, wild, .slice (some ⟨3, 0, none⟩) n2 c2, wild, wild, wild, wild, wild, wild, .slice (some ⟨2, 0, none⟩) t.length k, ii (t.length : Int), ii i, wild, wild, wild, wild, wild, wild, wild, wild, wild, wild, wild, wild, wild, wild, wild, wild, wild, wild, wild, wild, wild, wild, wild, wild, wild, wild]) (fun (s : Int × (List Value) × (List Value) × Nat × Nat) => match s with | (i, L, s2, n2, c2) => [([.slice (some ⟨1, 0, none⟩) n c, .slice (some ⟨2, 0, none⟩) t.length k], none), (pl P ++ sp, none), (il t ++ sq, none), (L ++ s2, some 3)]) (fun (s : Int × (List Value) × (List Value) × Nat × Nat) => match s with | (i, L, s2, n2, c2) => ((t.length : Int) - i).toNat) (fun (s : Int × (List Value) × (List Value) × Nat × Nat) => match s with | (i, L, s2, n2, c2) => VertI t i L s2 n2 c2) (0, [], [], 0, 0) (VertI.start t) ?_) (tmR_rfl rfl rfl) ⟨⟨⟨_, rfl, .lit rfl rfl (fun v hv => okB0_spec (allL_spec rfl v hv))⟩⟩, ⟨⟨_, rfl, .plain rfl rfl (Row.all h1)⟩⟩, ⟨⟨_, rfl, .plain rfl rfl (Row.all h2)⟩⟩, ⟨⟨_, rfl, .plain rfl rfl (by first | exact Plain.of rfl | exact Row.all (by assumption))⟩⟩, trivial⟩ rfl rfl; rintro fuel_ ⟨i, L, s2, n2, c2⟩ hI IH; replace hI : VertI t i L s2 n2 c2 := hI; conv => whnf)
    | exact next_forget [_] (IH (w64 (i + 1), _, _, _, _) (by exact hI.add (of_decide_eq_true (show decide (i < (t.length : Int)) = true by assumption)) hj (by first | exact .inl (of_decide_eq_true (by assumption)) | exact .inr (.inl (of_decide_eq_true (by assumption))) | exact .inr (.inr (of_decide_eq_true (by assumption)))) ra_) (by exact idx_mu ⟨hI.lo, hI.hi⟩ (by assumption) (by omega))) (tmR_rfl rfl rfl) ⟨⟨⟨_, rfl, .lit rfl rfl (fun v hv => okB0_spec (allL_spec rfl v hv))⟩⟩, ⟨⟨_, rfl, .plain rfl rfl (Row.all h1)⟩⟩, ⟨⟨_, rfl, .plain rfl rfl (Row.all h2)⟩⟩, ⟨⟨_, rfl, .plain rfl rfl (Row.all ra_)⟩⟩, trivial⟩ rfl rfl
    | exact next_forget [_] (IH (w64 (i + 1), _, _, _, _) (by exact hI.skip (of_decide_eq_true (show decide (i < (t.length : Int)) = true by assumption)) hj (fun hh => hh.elim (of_decide_eq_false (by assumption)) (fun hh => hh.elim (of_decide_eq_false (by assumption)) (of_decide_eq_false (by assumption))))) (by exact idx_mu ⟨hI.lo, hI.hi⟩ (by assumption) (by omega))) (tmR_rfl rfl rfl) ⟨⟨⟨_, rfl, .lit rfl rfl (fun v hv => okB0_spec (allL_spec rfl v hv))⟩⟩, ⟨⟨_, rfl, .plain rfl rfl (Row.all h1)⟩⟩, ⟨⟨_, rfl, .plain rfl rfl (Row.all h2)⟩⟩, ⟨⟨_, rfl, .plain rfl rfl (Row.all hI.row)⟩⟩, trivial⟩ rfl rfl
    | (refine br_in hI.lo (of_decide_eq_true (show decide (i < (t.length : Int)) = true by assumption)) ?_; conv => whnf)
    | (refine force_eq (take_il (i := i.toNat) (by simp only [Nat.mul_one, Nat.zero_add]) (by have := hI.lo; have := (of_decide_eq_true (show decide (i < (t.length : Int)) = true by assumption)); omega)) ?_; conv => whnf)
    | (show AppK _ _ _ 1 _ _ _ _ _; refine app_lit hI.row rfl rfl rfl (Plain.of rfl) rfl rfl (by decide) (by have := hI.num; have := hI.hi; show (_ + 1) * 8 ≤ _; omega) (by have := hI.num; have := hI.hi; omega) (fun hle_ spa_ ra_ => ?_) (fun hle_ ca_ spa_ ra_ => ?_) <;> conv => whnf)
    | (obtain ⟨rfl, h9_⟩ := hI.fin (of_decide_eq_false (by assumption)); exact out_forget [_] ⟨_, _, _, hI.row, by omega, rfl, rfl⟩ rfl (okB2_spec rfl) ⟨⟨⟨_, rfl, .lit rfl rfl (fun v hv => okB0_spec (allL_spec rfl v hv))⟩⟩, ⟨⟨_, rfl, .plain rfl rfl (Row.all h1)⟩⟩, ⟨⟨_, rfl, .plain rfl rfl (Row.all h2)⟩⟩, ⟨⟨_, rfl, .plain rfl rfl (Row.all hI.row)⟩⟩, trivial⟩ rfl rfl)
    | (refine StoreK.mk rfl ?_; conv => whnf)
    | exact join_same
    | exact (by assumption : (_ : Bool) = (_ : Bool))
    | (refine br_true (by assumption) ?_; conv => whnf)
    | (refine br_false (by assumption) ?_; conv => whnf)
    | (refine br_not ?_; conv => whnf)
    | (refine br_code ?_; conv => whnf)
    | (with_reducible refine br_and ?_; conv => whnf)
    | (with_reducible refine br_or ?_; conv => whnf)
    | (refine br_eq2 ?_; conv => whnf)
    | (refine draw_auto (by decide +kernel) ?_; conv => whnf)
    | (refine draw_asg (by decide +kernel) ?_; conv => whnf)
    | (refine draw_st (by decide +kernel) ?_; conv => whnf)
    | (refine draw_call (by decide +kernel) ?_; conv => whnf)
    | (refine enter_same (loop_n 12 ?_); conv => whnf)
    | (refine next_same ?_; conv => whnf)
    | (refine mapK_row (by assumption) ?_; conv => whnf)
    | (refine mapK_plain (Plain.of rfl) ?_; conv => whnf)
    | (refine mapK_lit ?_; conv => whnf)
    | (refine br_split (fun _ => ?_) (fun _ => ?_) <;> conv => whnf)
    | exact (rfl : (_ : Value) = _)
    | (simp only [*]; exact (rfl : (_ : Value) = _))
    | (simp [*]; done))

end Go.Proofs.Ytjakdmfodnpkkaa
end
