/-
  Contracts of functions of the program (printed by a program of this work; Lean checks each).
  Conditions: as each contract states.
-/
import Derived.Test.YtjakdmfodnpkkaaK12
import Derived.Test.YtjakdmfodnpkkaaSail
namespace Go.Proofs.Ytjakdmfodnpkkaa
open Go.Ev Go.RowKit
set_option maxRecDepth 100000
set_option linter.unusedVariables false
set_option linter.unusedSimpArgs false

theorem ang_ok {a b c d : Int} (h : isAngF a b c d = true) : AngOk a b c d := by
  simp only [isAngF, Bool.and_eq_true, decide_eq_true_eq] at h
  exact ⟨h.1.1.1.1, h.1.1.1.2, h.1.1.2, h.1.2, h.2⟩
theorem ang_no {a b c d : Int} (h : AngOk a b c d) : isAngF a b c d = true := by
  simp only [isAngF, Bool.and_eq_true, decide_eq_true_eq]
  exact ⟨⟨⟨⟨h.ca, h.cb⟩, h.pa⟩, h.pb⟩, h.w⟩

attribute [local irreducible] isPtF detF floorF plusF

set_option maxHeartbeats 3000000 in
theorem c_sailOf_ok {a b c d : Int} {P : List (Int × Int)} {T : List Int} (h : AngOk a b c d) (ht : sailT a b c d 0 = some (P, T)) : CallOK Try.prog n_impl_sailOf [pt a b, pt c d] [] (fun v m_ => ∃ n c_ j k sp sq, Row (pl P) sp n c_ 2 ∧ Row (il (T ++ [0])) sq j k 1 ∧ n ≤ 2000 ∧ v = t2 (.pointer (some ⟨0, 0, none⟩)) (ii 0) ∧ m_ = [([.slice (some ⟨1, 0, none⟩) n c_, .slice (some ⟨2, 0, none⟩) j k], some t_impl_sail), (pl P ++ sp, some t_impl_Point), (il (T ++ [0]) ++ sq, some 2)]) := by
  refine callOK_ofF good fn_impl_sailOf ?_
  conv => whnf
  all_goals (repeat' first
    | exact h.ca
    | exact h.cb
    | exact decide_eq_false (by have := h.w; omega)
    | (refine enter_forget [0, 1, 3, 7, 6, 4, 5] (loop_rec (fun (s : Int × Int × Int × Int × (List Value) × (List Value) × Nat × Nat × (List Value) × (List Value) × Nat × Nat × (List (Int × Int)) × (List Int)) => match s with | (u, v, x, y, L, sp, n, e, M, sq, k, f, Q, U) => [pt a b, pt c d, .pointer (some ⟨0, 0, none⟩), .pointer (some ⟨1, 0, none⟩), wild, wild, wild, .pointer (some ⟨2, 0, none⟩), .pointer (some ⟨4, 0, none⟩), .pointer (some ⟨3, 0, none⟩), wild, wild, wild, wild, wild, wild, wild, wild, wild, wild, wild, wild, wild, wild, wild, wild, wild, wild, wild, wild, wild, wild, wild, wild, wild, wild, wild, wild, wild, wild, wild, wild, wild, wild, wild, wild, wild, wild, wild, wild, wild, wild, wild, wild, wild, wild, wild, wild, wild, wild, wild, wild, wild, wild, wild, wild, wild, wild, wild, wild, wild, wild, wild, wild, wild, wild, wild, wild, wild, wild, wild, wild, wild, wild, wild, wild, wild, wild, wild, wild, wild]) (fun (s : Int × Int × Int × Int × (List Value) × (List Value) × Nat × Nat × (List Value) × (List Value) × Nat × Nat × (List (Int × Int)) × (List Int)) => match s with | (u, v, x, y, L, sp, n, e, M, sq, k, f, Q, U) => [([ii a, ii b], some t_impl_Point), ([ii c, ii d], some t_impl_Point), ([ii x, ii y], some t_impl_Point), ([ii u, ii v], some t_impl_Point), ([.slice (some ⟨5, 0, none⟩) n e, .slice (some ⟨6, 0, none⟩) k f], some t_impl_sail), (L ++ sp, some t_impl_Point), (M ++ sq, some 2)]) (fun (s : Int × Int × Int × Int × (List Value) × (List Value) × Nat × Nat × (List Value) × (List Value) × Nat × Nat × (List (Int × Int)) × (List Int)) => match s with | (u, v, x, y, L, sp, n, e, M, sq, k, f, Q, U) => 2001 - n) (fun (s : Int × Int × Int × Int × (List Value) × (List Value) × Nat × Nat × (List Value) × (List Value) × Nat × Nat × (List (Int × Int)) × (List Int)) => match s with | (u, v, x, y, L, sp, n, e, M, sq, k, f, Q, U) => SailS a b c d (sailT a b c d 0) u v x y L sp n e M sq k f Q U) (_, _, _, _, [ii a, ii b], [], 1, 1, [ii 0], [], 1, 1, _, _) (by exact SailS.start (t0 := 0) h) ?_) (tmR_rfl rfl rfl) ⟨⟨⟨_, rfl, .plain rfl rfl (by first | exact Plain.of rfl | exact Row.all (by assumption))⟩⟩, ⟨⟨_, rfl, .plain rfl rfl (by first | exact Plain.of rfl | exact Row.all (by assumption))⟩⟩, ⟨⟨_, rfl, .plain rfl rfl (by first | exact Plain.of rfl | exact Row.all (by assumption))⟩⟩, ⟨⟨_, rfl, .plain rfl rfl (by first | exact Plain.of rfl | exact Row.all (by assumption))⟩⟩, ⟨⟨_, rfl, .lit rfl rfl (fun v hv => okB0_spec (allL_spec rfl v hv))⟩⟩, ⟨⟨_, rfl, .plain rfl rfl (Plain.of rfl)⟩⟩, ⟨⟨_, rfl, .plain rfl rfl (Plain.of rfl)⟩⟩, trivial⟩ rfl rfl; rintro fuel_ ⟨u, v, x, y, L, sp, n, e, M, sq, k, f, Q, U⟩ hI IH; replace hI : SailS a b c d (sailT a b c d 0) u v x y L sp n e M sq k f Q U := hI; conv => whnf)
    | exact next_forget [0, 1, 2, _, 4, _, _] (IH (_, _, _, _, _, _, _, _, _, _, _, _, Q ++ [(x, y)], U ++ [turnP c d u v x y]) (by exact hI.next' (hI.ne h.gcd (by first | exact fun hh => of_decide_eq_false (show decide (y = d) = false by assumption) hh.2 | exact fun hh => of_decide_eq_false (show decide (x = c) = false by assumption) hh.1)) (hI.fits ht) ra_ rb_) (by show 2001 - (n + 1) < 2001 - n; have := hI.n2; omega)) (tmR_rfl rfl rfl) ⟨⟨⟨_, rfl, .plain rfl rfl (by first | exact Plain.of rfl | exact Row.all (by assumption))⟩⟩, ⟨⟨_, rfl, .plain rfl rfl (by first | exact Plain.of rfl | exact Row.all (by assumption))⟩⟩, ⟨⟨_, rfl, .plain rfl rfl (by first | exact Plain.of rfl | exact Row.all (by assumption))⟩⟩, ⟨⟨_, rfl, .plain rfl rfl (by first | exact Plain.of rfl | exact Row.all (by assumption))⟩⟩, ⟨⟨_, rfl, .lit rfl rfl (fun v hv => okB0_spec (allL_spec rfl v hv))⟩⟩, ⟨⟨_, rfl, .plain rfl rfl (Row.all ra_)⟩⟩, ⟨⟨_, rfl, .plain rfl rfl (Row.all rb_)⟩⟩, trivial⟩ rfl rfl
    | (show AppK _ _ _ 2 _ _ _ _ _; refine app_lit hI.row rfl rfl rfl (Plain.of rfl) rfl rfl (by decide) (by have := hI.n2; show (_ + 1) * 16 ≤ _; omega) (by have := hI.n2; omega) (fun hle_ spa_ ra_ => ?_) (fun hle_ ca_ spa_ ra_ => ?_) <;> conv => whnf)
    | (show AppK _ _ _ 1 _ _ _ _ _; refine app_lit hI.row2 rfl rfl rfl (Plain.of rfl) rfl rfl (by decide) (by have := hI.n2; have := hI.kn; show (_ + 1) * 8 ≤ _; omega) (by have := hI.n2; have := hI.kn; omega) (fun hle_ spb_ rb_ => ?_) (fun hle_ cb_ spb_ rb_ => ?_) <;> conv => whnf)
    | (refine draw_pt (.take 0 (.take 1 (.take 2 (.take 3 (.join [4, 5, 6] (.duo 4 (.solo 5 (.solo 6 .done)) 5 (.duo 4 (.solo 6 .done) 6 (.solo 4 .done))) (.solo 7 (.take 8 (.take 9 (.solo 10 .done))))))))) (by decide +kernel) ?_; conv => whnf)
    | (refine And.intro ?_ ?_ <;> conv => whnf)
    | (refine br_true (b := isPtF x y) hI.inv.pt ?_; conv => whnf)
    | exact decide_eq_false (by rw [hI.inv.detP]; exact (hI.ne h.gcd (by first | exact fun hh => of_decide_eq_false (show decide (y = d) = false by assumption) hh.2 | exact fun hh => of_decide_eq_false (show decide (x = c) = false by assumption) hh.1)))
    | (refine br_false (decide_eq_false (by have := hI.fits ht; omega)) ?_; conv => whnf)
    | (obtain ⟨e1_, e2_⟩ := hI.fin ht ((hI.inv.last h.gcd).2 ⟨of_decide_eq_true (by assumption), of_decide_eq_true (by assumption)⟩) 0; exact out_forget [_, _, _] ⟨_, _, _, _, _, _, e1_ ▸ ra_, e2_ ▸ rb_, (by have := hI.n2; have := hI.fits ht; omega), rfl, rfl⟩ rfl (okB2_spec rfl) ⟨⟨⟨_, rfl, .lit rfl rfl (fun v hv => okB0_spec (allL_spec rfl v hv))⟩⟩, ⟨⟨_, rfl, .plain (congrArg (· ++ _) e1_) rfl (Row.all (e1_ ▸ ra_))⟩⟩, ⟨⟨_, rfl, .plain (congrArg (· ++ _) e2_) rfl (Row.all (e2_ ▸ rb_))⟩⟩, trivial⟩ rfl rfl)
    | (refine StoreK.mk rfl ?_; conv => whnf)
    | exact join_same
    | exact (by assumption : (_ : Bool) = (_ : Bool))
    | (refine br_true (by assumption) ?_; conv => whnf)
    | (refine br_false (by assumption) ?_; conv => whnf)
    | (refine br_not ?_; conv => whnf)
    | (refine br_code ?_; conv => whnf)
    | (with_reducible refine br_and ?_; conv => whnf)
    | (with_reducible refine br_or ?_; conv => whnf)
    | (refine br_eq2 ?_; conv => whnf)
    | (refine (c_impl_Point_mate ?_).call ?_ <;> conv => whnf)
    | (refine (c_impl_Point_mate ?_).quiet ?_ <;> conv => whnf)
    | (refine c_impl_det.call ?_; conv => whnf)
    | (refine c_impl_det.quiet ?_; conv => whnf)
    | (refine (c_impl_floor ?_).call ?_ <;> conv => whnf)
    | (refine (c_impl_floor ?_).quiet ?_ <;> conv => whnf)
    | (refine c_impl_Point_plus.call ?_; conv => whnf)
    | (refine c_impl_Point_plus.quiet ?_; conv => whnf)
    | (refine c_impl_IsPoint.call ?_; conv => whnf)
    | (refine c_impl_IsPoint.quiet ?_; conv => whnf)
    | (refine c_impl_Point_less.call ?_; conv => whnf)
    | (refine c_impl_Point_less.quiet ?_; conv => whnf)
    | (refine draw_auto (by decide +kernel) ?_; conv => whnf)
    | (refine draw_asg (by decide +kernel) ?_; conv => whnf)
    | (refine draw_st (by decide +kernel) ?_; conv => whnf)
    | (refine draw_call (by decide +kernel) ?_; conv => whnf)
    | (refine enter_same (loop_n 12 ?_); conv => whnf)
    | (refine next_same ?_; conv => whnf)
    | (refine mapK_row (by assumption) ?_; conv => whnf)
    | (refine mapK_plain (Plain.of rfl) ?_; conv => whnf)
    | (refine mapK_lit ?_; conv => whnf)
    | (refine br_split (fun _ => ?_) (fun _ => ?_) <;> conv => whnf)
    | exact (rfl : (_ : Value) = _)
    | (simp only [*]; exact (rfl : (_ : Value) = _))
    | (simp [*]; done))

set_option maxHeartbeats 3000000 in
theorem c_sailOf_no {a b c d : Int} (h : AngOk a b c d) (ht : sailT a b c d 0 = none) : CallOK Try.prog n_impl_sailOf [pt a b, pt c d] [] (fun v m_ => v = t2 (.pointer none) (ii 3) ∧ m_ = []) := by
  refine callOK_ofF good fn_impl_sailOf ?_
  conv => whnf
  all_goals (repeat' first
    | exact h.ca
    | exact h.cb
    | exact decide_eq_false (by have := h.w; omega)
    | (refine enter_forget [0, 1, 3, 7, 6, 4, 5] (loop_rec (fun (s : Int × Int × Int × Int × (List Value) × (List Value) × Nat × Nat × (List Value) × (List Value) × Nat × Nat × (List (Int × Int)) × (List Int)) => match s with | (u, v, x, y, L, sp, n, e, M, sq, k, f, Q, U) => [pt a b, pt c d, .pointer (some ⟨0, 0, none⟩), .pointer (some ⟨1, 0, none⟩), wild, wild, wild, .pointer (some ⟨2, 0, none⟩), .pointer (some ⟨4, 0, none⟩), .pointer (some ⟨3, 0, none⟩), wild, wild, wild, wild, wild, wild, wild, wild, wild, wild, wild, wild, wild, wild, wild, wild, wild, wild, wild, wild, wild, wild, wild, wild, wild, wild, wild, wild, wild, wild, wild, wild, wild, wild, wild, wild, wild, wild, wild, wild, wild, wild, wild, wild, wild, wild, wild, wild, wild, wild, wild, wild, wild, wild, wild, wild, wild, wild, wild, wild, wild, wild, wild, wild, wild, wild, wild, wild, wild, wild, wild, wild, wild, wild, wild, wild, wild, wild, wild, wild, wild]) (fun (s : Int × Int × Int × Int × (List Value) × (List Value) × Nat × Nat × (List Value) × (List Value) × Nat × Nat × (List (Int × Int)) × (List Int)) => match s with | (u, v, x, y, L, sp, n, e, M, sq, k, f, Q, U) => [([ii a, ii b], some t_impl_Point), ([ii c, ii d], some t_impl_Point), ([ii x, ii y], some t_impl_Point), ([ii u, ii v], some t_impl_Point), ([.slice (some ⟨5, 0, none⟩) n e, .slice (some ⟨6, 0, none⟩) k f], some t_impl_sail), (L ++ sp, some t_impl_Point), (M ++ sq, some 2)]) (fun (s : Int × Int × Int × Int × (List Value) × (List Value) × Nat × Nat × (List Value) × (List Value) × Nat × Nat × (List (Int × Int)) × (List Int)) => match s with | (u, v, x, y, L, sp, n, e, M, sq, k, f, Q, U) => 2001 - n) (fun (s : Int × Int × Int × Int × (List Value) × (List Value) × Nat × Nat × (List Value) × (List Value) × Nat × Nat × (List (Int × Int)) × (List Int)) => match s with | (u, v, x, y, L, sp, n, e, M, sq, k, f, Q, U) => SailS a b c d (sailT a b c d 0) u v x y L sp n e M sq k f Q U) (_, _, _, _, [ii a, ii b], [], 1, 1, [ii 0], [], 1, 1, _, _) (by exact SailS.start (t0 := 0) h) ?_) (tmR_rfl rfl rfl) ⟨⟨⟨_, rfl, .plain rfl rfl (by first | exact Plain.of rfl | exact Row.all (by assumption))⟩⟩, ⟨⟨_, rfl, .plain rfl rfl (by first | exact Plain.of rfl | exact Row.all (by assumption))⟩⟩, ⟨⟨_, rfl, .plain rfl rfl (by first | exact Plain.of rfl | exact Row.all (by assumption))⟩⟩, ⟨⟨_, rfl, .plain rfl rfl (by first | exact Plain.of rfl | exact Row.all (by assumption))⟩⟩, ⟨⟨_, rfl, .lit rfl rfl (fun v hv => okB0_spec (allL_spec rfl v hv))⟩⟩, ⟨⟨_, rfl, .plain rfl rfl (Plain.of rfl)⟩⟩, ⟨⟨_, rfl, .plain rfl rfl (Plain.of rfl)⟩⟩, trivial⟩ rfl rfl; rintro fuel_ ⟨u, v, x, y, L, sp, n, e, M, sq, k, f, Q, U⟩ hI IH; replace hI : SailS a b c d (sailT a b c d 0) u v x y L sp n e M sq k f Q U := hI; conv => whnf)
    | exact next_forget [0, 1, 2, _, 4, _, _] (IH (_, _, _, _, _, _, _, _, _, _, _, _, Q ++ [(x, y)], U ++ [turnP c d u v x y]) (by exact hI.next' (hI.ne h.gcd (by first | exact fun hh => of_decide_eq_false (show decide (y = d) = false by assumption) hh.2 | exact fun hh => of_decide_eq_false (show decide (x = c) = false by assumption) hh.1)) (by have h9_ := of_decide_eq_false (show decide (((n + 1 : Nat) : Int) > 2000) = false by assumption); omega) ra_ rb_) (by show 2001 - (n + 1) < 2001 - n; have := hI.n2; omega)) (tmR_rfl rfl rfl) ⟨⟨⟨_, rfl, .plain rfl rfl (by first | exact Plain.of rfl | exact Row.all (by assumption))⟩⟩, ⟨⟨_, rfl, .plain rfl rfl (by first | exact Plain.of rfl | exact Row.all (by assumption))⟩⟩, ⟨⟨_, rfl, .plain rfl rfl (by first | exact Plain.of rfl | exact Row.all (by assumption))⟩⟩, ⟨⟨_, rfl, .plain rfl rfl (by first | exact Plain.of rfl | exact Row.all (by assumption))⟩⟩, ⟨⟨_, rfl, .lit rfl rfl (fun v hv => okB0_spec (allL_spec rfl v hv))⟩⟩, ⟨⟨_, rfl, .plain rfl rfl (Row.all ra_)⟩⟩, ⟨⟨_, rfl, .plain rfl rfl (Row.all rb_)⟩⟩, trivial⟩ rfl rfl
    | (show AppK _ _ _ 2 _ _ _ _ _; refine app_lit hI.row rfl rfl rfl (Plain.of rfl) rfl rfl (by decide) (by have := hI.n2; show (_ + 1) * 16 ≤ _; omega) (by have := hI.n2; omega) (fun hle_ spa_ ra_ => ?_) (fun hle_ ca_ spa_ ra_ => ?_) <;> conv => whnf)
    | (show AppK _ _ _ 1 _ _ _ _ _; refine app_lit hI.row2 rfl rfl rfl (Plain.of rfl) rfl rfl (by decide) (by have := hI.n2; have := hI.kn; show (_ + 1) * 8 ≤ _; omega) (by have := hI.n2; have := hI.kn; omega) (fun hle_ spb_ rb_ => ?_) (fun hle_ cb_ spb_ rb_ => ?_) <;> conv => whnf)
    | (refine draw_pt (.take 0 (.take 1 (.take 2 (.take 3 (.join [4, 5, 6] (.duo 4 (.solo 5 (.solo 6 .done)) 5 (.duo 4 (.solo 6 .done) 6 (.solo 4 .done))) (.solo 7 (.take 8 (.take 9 (.solo 10 .done))))))))) (by decide +kernel) ?_; conv => whnf)
    | (refine And.intro ?_ ?_ <;> conv => whnf)
    | (refine br_true (b := isPtF x y) hI.inv.pt ?_; conv => whnf)
    | exact decide_eq_false (by rw [hI.inv.detP]; exact (hI.ne h.gcd (by first | exact fun hh => of_decide_eq_false (show decide (y = d) = false by assumption) hh.2 | exact fun hh => of_decide_eq_false (show decide (x = c) = false by assumption) hh.1)))
    | exact out_forget [] ⟨rfl, rfl⟩ rfl (okB2_spec rfl) trivial rfl rfl
    | exact absurd (hI.last ((hI.inv.last h.gcd).2 ⟨of_decide_eq_true (by assumption), of_decide_eq_true (by assumption)⟩) (by have h9_ := of_decide_eq_false (show decide (((n + 1 : Nat) : Int) > 2000) = false by assumption); omega)) (by rw [ht]; exact fun hh => by cases hh)
    | (refine StoreK.mk rfl ?_; conv => whnf)
    | exact join_same
    | exact (by assumption : (_ : Bool) = (_ : Bool))
    | (refine br_true (by assumption) ?_; conv => whnf)
    | (refine br_false (by assumption) ?_; conv => whnf)
    | (refine br_not ?_; conv => whnf)
    | (refine br_code ?_; conv => whnf)
    | (with_reducible refine br_and ?_; conv => whnf)
    | (with_reducible refine br_or ?_; conv => whnf)
    | (refine br_eq2 ?_; conv => whnf)
    | (refine (c_impl_Point_mate ?_).call ?_ <;> conv => whnf)
    | (refine (c_impl_Point_mate ?_).quiet ?_ <;> conv => whnf)
    | (refine c_impl_det.call ?_; conv => whnf)
    | (refine c_impl_det.quiet ?_; conv => whnf)
    | (refine (c_impl_floor ?_).call ?_ <;> conv => whnf)
    | (refine (c_impl_floor ?_).quiet ?_ <;> conv => whnf)
    | (refine c_impl_Point_plus.call ?_; conv => whnf)
    | (refine c_impl_Point_plus.quiet ?_; conv => whnf)
    | (refine c_impl_IsPoint.call ?_; conv => whnf)
    | (refine c_impl_IsPoint.quiet ?_; conv => whnf)
    | (refine c_impl_Point_less.call ?_; conv => whnf)
    | (refine c_impl_Point_less.quiet ?_; conv => whnf)
    | (refine draw_auto (by decide +kernel) ?_; conv => whnf)
    | (refine draw_asg (by decide +kernel) ?_; conv => whnf)
    | (refine draw_st (by decide +kernel) ?_; conv => whnf)
    | (refine draw_call (by decide +kernel) ?_; conv => whnf)
    | (refine enter_same (loop_n 12 ?_); conv => whnf)
    | (refine next_same ?_; conv => whnf)
    | (refine mapK_row (by assumption) ?_; conv => whnf)
    | (refine mapK_plain (Plain.of rfl) ?_; conv => whnf)
    | (refine mapK_lit ?_; conv => whnf)
    | (refine br_split (fun _ => ?_) (fun _ => ?_) <;> conv => whnf)
    | exact (rfl : (_ : Value) = _)
    | (simp only [*]; exact (rfl : (_ : Value) = _))
    | (simp [*]; done))

end Go.Proofs.Ytjakdmfodnpkkaa
