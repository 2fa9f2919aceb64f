/-
  Contracts of functions of the program (printed by a program of this work; Lean checks each).
  Conditions: as each contract states.
-/
import Derived.Test.YtjakdmfodnpkkaaK13
namespace Go.Proofs.Ytjakdmfodnpkkaa
open Go.Ev Go.RowKit
set_option maxRecDepth 100000
set_option linter.unusedVariables false
set_option linter.unusedSimpArgs false

set_option maxHeartbeats 3000000 in
theorem c_l03Sail_ok {a b c d : Int} {P : List (Int × Int)} {T : List Int} (h : AngOk a b c d) (ht : sailT a b c d 2 = some (P, T)) : CallOK Try.prog n_spec_l03Sail [pt a b, pt c d] [] (fun v m_ => ∃ n c_ j k sp sq, Row (pl P) sp n c_ 2 ∧ Row (il (T ++ [2])) sq j k 1 ∧ n ≤ 2000 ∧ v = .tuple #[.slice (some ⟨0, 0, none⟩) n c_, .slice (some ⟨1, 0, none⟩) j k, bb true] ∧ m_ = [(pl P ++ sp, some t_impl_Point), (il (T ++ [2]) ++ sq, some 2)]) := by
  refine callOK_ofF good fn_spec_l03Sail ?_
  conv => whnf
  all_goals (repeat' first
    | exact h.ca
    | exact h.cb
    | exact decide_eq_false (by have := h.w; omega)
    | (refine draw_pt (.take 3 (.join [0, 1, 2, 4, 5, 6, 7] (.quad 0 (.trio 1 (.duo 2 (.duo 4 (.duo 5 (.duo 6 (.solo 7 .done) 7 (.solo 6 .done)) 6 (.solo 5 (.solo 7 .done))) 6 (.solo 4 (.solo 5 (.solo 7 .done)))) 6 (.solo 2 (.solo 4 (.solo 5 (.solo 7 .done))))) 2 (.duo 1 (.duo 4 (.duo 5 (.duo 6 (.solo 7 .done) 7 (.solo 6 .done)) 6 (.solo 5 (.solo 7 .done))) 6 (.solo 4 (.solo 5 (.solo 7 .done)))) 6 (.solo 1 (.solo 4 (.solo 5 (.solo 7 .done))))) 6 (.duo 1 (.solo 2 (.solo 4 (.solo 5 (.solo 7 .done)))) 2 (.solo 1 (.solo 4 (.solo 5 (.solo 7 .done)))))) 1 (.trio 0 (.duo 2 (.duo 4 (.duo 5 (.duo 6 (.solo 7 .done) 7 (.solo 6 .done)) 6 (.solo 5 (.solo 7 .done))) 6 (.solo 4 (.solo 5 (.solo 7 .done)))) 6 (.solo 2 (.solo 4 (.solo 5 (.solo 7 .done))))) 2 (.trio 0 (.duo 4 (.duo 5 (.duo 6 (.solo 7 .done) 7 (.solo 6 .done)) 6 (.solo 5 (.solo 7 .done))) 6 (.solo 4 (.solo 5 (.solo 7 .done)))) 4 (.duo 0 (.duo 5 (.duo 6 (.solo 7 .done) 7 (.solo 6 .done)) 6 (.solo 5 (.solo 7 .done))) 6 (.solo 0 (.solo 5 (.solo 7 .done)))) 6 (.duo 0 (.solo 4 (.solo 5 (.solo 7 .done))) 4 (.solo 0 (.solo 5 (.solo 7 .done))))) 6 (.duo 0 (.solo 2 (.solo 4 (.solo 5 (.solo 7 .done)))) 2 (.duo 0 (.solo 4 (.solo 5 (.solo 7 .done))) 4 (.solo 0 (.solo 5 (.solo 7 .done)))))) 2 (.trio 0 (.duo 1 (.duo 4 (.duo 5 (.duo 6 (.solo 7 .done) 7 (.solo 6 .done)) 6 (.solo 5 (.solo 7 .done))) 6 (.solo 4 (.solo 5 (.solo 7 .done)))) 6 (.solo 1 (.solo 4 (.solo 5 (.solo 7 .done))))) 1 (.trio 0 (.duo 4 (.duo 5 (.duo 6 (.solo 7 .done) 7 (.solo 6 .done)) 6 (.solo 5 (.solo 7 .done))) 6 (.solo 4 (.solo 5 (.solo 7 .done)))) 4 (.duo 0 (.duo 5 (.duo 6 (.solo 7 .done) 7 (.solo 6 .done)) 6 (.solo 5 (.solo 7 .done))) 6 (.solo 0 (.solo 5 (.solo 7 .done)))) 6 (.duo 0 (.solo 4 (.solo 5 (.solo 7 .done))) 4 (.solo 0 (.solo 5 (.solo 7 .done))))) 6 (.duo 0 (.solo 1 (.solo 4 (.solo 5 (.solo 7 .done)))) 1 (.duo 0 (.solo 4 (.solo 5 (.solo 7 .done))) 4 (.solo 0 (.solo 5 (.solo 7 .done)))))) 6 (.trio 0 (.duo 1 (.solo 2 (.solo 4 (.solo 5 (.solo 7 .done)))) 2 (.solo 1 (.solo 4 (.solo 5 (.solo 7 .done))))) 1 (.duo 0 (.solo 2 (.solo 4 (.solo 5 (.solo 7 .done)))) 2 (.duo 0 (.solo 4 (.solo 5 (.solo 7 .done))) 4 (.solo 0 (.solo 5 (.solo 7 .done))))) 2 (.duo 0 (.solo 1 (.solo 4 (.solo 5 (.solo 7 .done)))) 1 (.duo 0 (.solo 4 (.solo 5 (.solo 7 .done))) 4 (.solo 0 (.solo 5 (.solo 7 .done))))))) (.solo 8 .done))) (by decide +kernel) ?_; conv => whnf)
    | exact join_same
    | exact join_forget [_, _] (tmR_rfl rfl rfl) ⟨⟨⟨_, rfl, .plain rfl rfl (by first | exact Plain.of rfl | exact Row.all (by assumption))⟩⟩, ⟨⟨_, rfl, .plain rfl rfl (by first | exact Plain.of rfl | exact Row.all (by assumption))⟩⟩, ⟨⟨_, rfl, .plain rfl rfl (by first | exact Plain.of rfl | exact Row.all (by assumption))⟩⟩, ⟨⟨_, rfl, .plain rfl rfl (by first | exact Plain.of rfl | exact Row.all (by assumption))⟩⟩, ⟨⟨_, rfl, .plain rfl rfl (by first | exact Plain.of rfl | exact Row.all (by assumption))⟩⟩, trivial⟩ rfl rfl
    | (refine enter_forget [0, 1, 3, 4] (loop_rec (fun (s : Int × Int × Int × Int × (List Value) × (List Value) × Nat × Nat × (List Value) × (List Value) × Nat × Nat × (List (Int × Int)) × (List Int)) => match s with | (u, v, x, y, L, sp, n, e, M, sq, k, f, Q, U) => [pt a b, pt c d, .pointer (some ⟨0, 0, none⟩), .pointer (some ⟨1, 0, none⟩), wild, wild, wild, wild, wild, wild, .slice (some ⟨2, 0, none⟩) n e, .slice (some ⟨3, 0, none⟩) k f, wild, wild, wild, wild, wild, wild, wild, wild, wild, wild, wild, wild, wild, wild, wild, wild, wild, wild, wild, wild, wild, wild, wild, wild, wild, wild, wild, wild, wild, wild, wild, wild, wild, wild, wild, wild, wild, wild, wild, wild, wild, wild, wild, wild, wild, wild, wild, wild, wild, wild, wild, wild, wild, wild, wild, wild, wild, wild, wild, wild, wild, wild, wild, wild, wild, wild, wild, wild, wild, wild, wild, wild, wild, wild, wild, wild, wild, wild, wild, wild, wild, wild]) (fun (s : Int × Int × Int × Int × (List Value) × (List Value) × Nat × Nat × (List Value) × (List Value) × Nat × Nat × (List (Int × Int)) × (List Int)) => match s with | (u, v, x, y, L, sp, n, e, M, sq, k, f, Q, U) => [([ii a, ii b], some t_impl_Point), ([ii c, ii d], some t_impl_Point), (L ++ sp, some t_impl_Point), (M ++ sq, some 2)]) (fun (s : Int × Int × Int × Int × (List Value) × (List Value) × Nat × Nat × (List Value) × (List Value) × Nat × Nat × (List (Int × Int)) × (List Int)) => match s with | (u, v, x, y, L, sp, n, e, M, sq, k, f, Q, U) => 2002 - n) (fun (s : Int × Int × Int × Int × (List Value) × (List Value) × Nat × Nat × (List Value) × (List Value) × Nat × Nat × (List (Int × Int)) × (List Int)) => match s with | (u, v, x, y, L, sp, n, e, M, sq, k, f, Q, U) => SailN a b c d (sailT a b c d 2) u v x y L sp n e M sq k f Q U) (_, _, _, _, _, [], 2, 2, [ii 2], [], 1, 1, _, _) (by exact SailN.start (t0 := 2) h) ?_) (tmR_rfl rfl rfl) ⟨⟨⟨_, rfl, .plain rfl rfl (by first | exact Plain.of rfl | exact Row.all (by assumption))⟩⟩, ⟨⟨_, rfl, .plain rfl rfl (by first | exact Plain.of rfl | exact Row.all (by assumption))⟩⟩, ⟨⟨_, rfl, .plain (List.append_nil _).symm rfl (Plain.of rfl)⟩⟩, ⟨⟨_, rfl, .plain rfl rfl (Plain.of rfl)⟩⟩, trivial⟩ rfl rfl; rintro fuel_ ⟨u, v, x, y, L, sp, n, e, M, sq, k, f, Q, U⟩ hI IH; replace hI : SailN a b c d (sailT a b c d 2) u v x y L sp n e M sq k f Q U := hI; conv => whnf)
    | exact next_forget [0, 1, _, _] (IH (_, _, _, _, _, _, _, _, _, _, _, _, Q ++ [(u, v)], U ++ [turnP c d u v x y]) (by exact hI.next (by have h8_ := of_decide_eq_false (show decide (detF x y c d = 0) = false by assumption); rw [hI.inv.detP] at h8_; exact h8_) (hI.fits ht) ra_ rb_) (by show 2002 - (n + 1) < 2002 - n; have := hI.n2; omega)) (tmR_rfl rfl rfl) ⟨⟨⟨_, rfl, .plain rfl rfl (by first | exact Plain.of rfl | exact Row.all (by assumption))⟩⟩, ⟨⟨_, rfl, .plain rfl rfl (by first | exact Plain.of rfl | exact Row.all (by assumption))⟩⟩, ⟨⟨_, rfl, .plain rfl rfl (Row.all ra_)⟩⟩, ⟨⟨_, rfl, .plain rfl rfl (Row.all rb_)⟩⟩, trivial⟩ rfl rfl
    | (show AppK _ _ _ 2 _ _ _ _ _; refine app_lit hI.row rfl rfl rfl (Plain.of rfl) rfl rfl (by decide) (by have := hI.n2; show (_ + 1) * 16 ≤ _; omega) (by have := hI.n2; omega) (fun hle_ spa_ ra_ => ?_) (fun hle_ ca_ spa_ ra_ => ?_) <;> conv => whnf)
    | (show AppK _ _ _ 1 _ _ _ _ _; refine app_lit hI.row2 rfl rfl rfl (Plain.of rfl) rfl rfl (by decide) (by have := hI.n2; have := hI.kn; show (_ + 1) * 8 ≤ _; omega) (by have := hI.n2; have := hI.kn; omega) (fun hle_ spb_ rb_ => ?_) (fun hle_ cb_ spb_ rb_ => ?_) <;> conv => whnf)
    | (refine br_in (by have := hI.pn; have := hI.n2; (try clear IH); (try simp only [w64_def] at *); omega) (by have := hI.pn; have := hI.n2; (try clear IH); (try simp only [w64_def] at *); omega) ?_; conv => whnf)
    | (refine force_eq (hI.at2 ?_) ?_; (focus (simp only [show Int.toNat 0 = 0 from rfl, show (w64 (0 + 1)) = 1 from rfl, show Int.toNat 1 = 1 from rfl, Nat.zero_mul, Nat.one_mul, Nat.mul_one, Nat.add_zero, Nat.zero_add]; done)); conv => whnf)
    | (refine force_eq (hI.at1 ?_) ?_; (focus (simp only [show Int.toNat 0 = 0 from rfl, show (w64 (0 + 1)) = 1 from rfl, show Int.toNat 1 = 1 from rfl, Nat.zero_mul, Nat.one_mul, Nat.mul_one, Nat.add_zero, Nat.zero_add]; done)); conv => whnf)
    | (refine force_eq (hI.at20 ?_) ?_; (focus (simp only [show Int.toNat 0 = 0 from rfl, show (w64 (0 + 1)) = 1 from rfl, show Int.toNat 1 = 1 from rfl, Nat.zero_mul, Nat.one_mul, Nat.mul_one, Nat.add_zero, Nat.zero_add]; done)); conv => whnf)
    | (refine force_eq (hI.at21 ?_) ?_; (focus (simp only [show Int.toNat 0 = 0 from rfl, show (w64 (0 + 1)) = 1 from rfl, show Int.toNat 1 = 1 from rfl, Nat.zero_mul, Nat.one_mul, Nat.mul_one, Nat.add_zero, Nat.zero_add]; done)); conv => whnf)
    | (refine And.intro ?_ ?_ <;> conv => whnf)
    | (refine br_false (decide_eq_false (by have := hI.fits ht; omega)) ?_; conv => whnf)
    | (obtain ⟨e1_, e2_⟩ := hI.fin ht (by have h8_ := of_decide_eq_true (show decide (detF x y c d = 0) = true by assumption); rw [hI.inv.detP] at h8_; exact h8_) 2; exact out_forget [_, _] ⟨_, _, _, _, _, _, e1_ ▸ hI.row, e2_ ▸ rb_, (by have := hI.fits ht; omega), rfl, rfl⟩ rfl (okB2_spec rfl) ⟨⟨⟨_, rfl, .plain (congrArg (· ++ _) e1_) rfl (Row.all (e1_ ▸ hI.row))⟩⟩, ⟨⟨_, rfl, .plain (congrArg (· ++ _) e2_) rfl (Row.all (e2_ ▸ rb_))⟩⟩, trivial⟩ rfl rfl)
    | (refine StoreK.mk rfl ?_; conv => whnf)
    | exact join_same
    | exact (by assumption : (_ : Bool) = (_ : Bool))
    | (refine br_true (by assumption) ?_; conv => whnf)
    | (refine br_false (by assumption) ?_; conv => whnf)
    | (refine br_not ?_; conv => whnf)
    | (refine br_code ?_; conv => whnf)
    | (with_reducible refine br_and ?_; conv => whnf)
    | (with_reducible refine br_or ?_; conv => whnf)
    | (refine br_eq2 ?_; conv => whnf)
    | (refine c_spec_l01Det.call ?_; conv => whnf)
    | (refine c_spec_l01Det.quiet ?_; conv => whnf)
    | (refine (c_spec_l01Base ?_).call ?_ <;> conv => whnf)
    | (refine (c_spec_l01Base ?_).quiet ?_ <;> conv => whnf)
    | (refine (c_spec_l01Floor ?_).call ?_ <;> conv => whnf)
    | (refine (c_spec_l01Floor ?_).quiet ?_ <;> conv => whnf)
    | (refine c_spec_l01Plus.call ?_; conv => whnf)
    | (refine c_spec_l01Plus.quiet ?_; conv => whnf)
    | (refine draw_auto (by decide +kernel) ?_; conv => whnf)
    | (refine draw_asg (by decide +kernel) ?_; conv => whnf)
    | (refine draw_st (by decide +kernel) ?_; conv => whnf)
    | (refine draw_call (by decide +kernel) ?_; conv => whnf)
    | (refine enter_same (loop_n 12 ?_); conv => whnf)
    | (refine next_same ?_; conv => whnf)
    | (refine mapK_row (by assumption) ?_; conv => whnf)
    | (refine mapK_plain (Plain.of rfl) ?_; conv => whnf)
    | (refine mapK_lit ?_; conv => whnf)
    | (refine br_split (fun _ => ?_) (fun _ => ?_) <;> conv => whnf)
    | exact (rfl : (_ : Value) = _)
    | (simp only [*]; exact (rfl : (_ : Value) = _))
    | (simp [*]; done))

set_option maxHeartbeats 3000000 in
theorem c_l03Sail_no {a b c d : Int} (h : AngOk a b c d) (ht : sailT a b c d 2 = none) : CallOK Try.prog n_spec_l03Sail [pt a b, pt c d] [] (fun v m_ => v = .tuple #[.slice none 0 0, .slice none 0 0, bb false] ∧ m_ = []) := by
  refine callOK_ofF good fn_spec_l03Sail ?_
  conv => whnf
  all_goals (repeat' first
    | exact h.ca
    | exact h.cb
    | exact decide_eq_false (by have := h.w; omega)
    | (refine draw_pt (.take 3 (.join [0, 1, 2, 4, 5, 6, 7] (.quad 0 (.trio 1 (.duo 2 (.duo 4 (.duo 5 (.duo 6 (.solo 7 .done) 7 (.solo 6 .done)) 6 (.solo 5 (.solo 7 .done))) 6 (.solo 4 (.solo 5 (.solo 7 .done)))) 6 (.solo 2 (.solo 4 (.solo 5 (.solo 7 .done))))) 2 (.duo 1 (.duo 4 (.duo 5 (.duo 6 (.solo 7 .done) 7 (.solo 6 .done)) 6 (.solo 5 (.solo 7 .done))) 6 (.solo 4 (.solo 5 (.solo 7 .done)))) 6 (.solo 1 (.solo 4 (.solo 5 (.solo 7 .done))))) 6 (.duo 1 (.solo 2 (.solo 4 (.solo 5 (.solo 7 .done)))) 2 (.solo 1 (.solo 4 (.solo 5 (.solo 7 .done)))))) 1 (.trio 0 (.duo 2 (.duo 4 (.duo 5 (.duo 6 (.solo 7 .done) 7 (.solo 6 .done)) 6 (.solo 5 (.solo 7 .done))) 6 (.solo 4 (.solo 5 (.solo 7 .done)))) 6 (.solo 2 (.solo 4 (.solo 5 (.solo 7 .done))))) 2 (.trio 0 (.duo 4 (.duo 5 (.duo 6 (.solo 7 .done) 7 (.solo 6 .done)) 6 (.solo 5 (.solo 7 .done))) 6 (.solo 4 (.solo 5 (.solo 7 .done)))) 4 (.duo 0 (.duo 5 (.duo 6 (.solo 7 .done) 7 (.solo 6 .done)) 6 (.solo 5 (.solo 7 .done))) 6 (.solo 0 (.solo 5 (.solo 7 .done)))) 6 (.duo 0 (.solo 4 (.solo 5 (.solo 7 .done))) 4 (.solo 0 (.solo 5 (.solo 7 .done))))) 6 (.duo 0 (.solo 2 (.solo 4 (.solo 5 (.solo 7 .done)))) 2 (.duo 0 (.solo 4 (.solo 5 (.solo 7 .done))) 4 (.solo 0 (.solo 5 (.solo 7 .done)))))) 2 (.trio 0 (.duo 1 (.duo 4 (.duo 5 (.duo 6 (.solo 7 .done) 7 (.solo 6 .done)) 6 (.solo 5 (.solo 7 .done))) 6 (.solo 4 (.solo 5 (.solo 7 .done)))) 6 (.solo 1 (.solo 4 (.solo 5 (.solo 7 .done))))) 1 (.trio 0 (.duo 4 (.duo 5 (.duo 6 (.solo 7 .done) 7 (.solo 6 .done)) 6 (.solo 5 (.solo 7 .done))) 6 (.solo 4 (.solo 5 (.solo 7 .done)))) 4 (.duo 0 (.duo 5 (.duo 6 (.solo 7 .done) 7 (.solo 6 .done)) 6 (.solo 5 (.solo 7 .done))) 6 (.solo 0 (.solo 5 (.solo 7 .done)))) 6 (.duo 0 (.solo 4 (.solo 5 (.solo 7 .done))) 4 (.solo 0 (.solo 5 (.solo 7 .done))))) 6 (.duo 0 (.solo 1 (.solo 4 (.solo 5 (.solo 7 .done)))) 1 (.duo 0 (.solo 4 (.solo 5 (.solo 7 .done))) 4 (.solo 0 (.solo 5 (.solo 7 .done)))))) 6 (.trio 0 (.duo 1 (.solo 2 (.solo 4 (.solo 5 (.solo 7 .done)))) 2 (.solo 1 (.solo 4 (.solo 5 (.solo 7 .done))))) 1 (.duo 0 (.solo 2 (.solo 4 (.solo 5 (.solo 7 .done)))) 2 (.duo 0 (.solo 4 (.solo 5 (.solo 7 .done))) 4 (.solo 0 (.solo 5 (.solo 7 .done))))) 2 (.duo 0 (.solo 1 (.solo 4 (.solo 5 (.solo 7 .done)))) 1 (.duo 0 (.solo 4 (.solo 5 (.solo 7 .done))) 4 (.solo 0 (.solo 5 (.solo 7 .done))))))) (.solo 8 .done))) (by decide +kernel) ?_; conv => whnf)
    | exact join_same
    | exact join_forget [_, _] (tmR_rfl rfl rfl) ⟨⟨⟨_, rfl, .plain rfl rfl (by first | exact Plain.of rfl | exact Row.all (by assumption))⟩⟩, ⟨⟨_, rfl, .plain rfl rfl (by first | exact Plain.of rfl | exact Row.all (by assumption))⟩⟩, ⟨⟨_, rfl, .plain rfl rfl (by first | exact Plain.of rfl | exact Row.all (by assumption))⟩⟩, ⟨⟨_, rfl, .plain rfl rfl (by first | exact Plain.of rfl | exact Row.all (by assumption))⟩⟩, ⟨⟨_, rfl, .plain rfl rfl (by first | exact Plain.of rfl | exact Row.all (by assumption))⟩⟩, trivial⟩ rfl rfl
    | (refine enter_forget [0, 1, 3, 4] (loop_rec (fun (s : Int × Int × Int × Int × (List Value) × (List Value) × Nat × Nat × (List Value) × (List Value) × Nat × Nat × (List (Int × Int)) × (List Int)) => match s with | (u, v, x, y, L, sp, n, e, M, sq, k, f, Q, U) => [pt a b, pt c d, .pointer (some ⟨0, 0, none⟩), .pointer (some ⟨1, 0, none⟩), wild, wild, wild, wild, wild, wild, .slice (some ⟨2, 0, none⟩) n e, .slice (some ⟨3, 0, none⟩) k f, wild, wild, wild, wild, wild, wild, wild, wild, wild, wild, wild, wild, wild, wild, wild, wild, wild, wild, wild, wild, wild, wild, wild, wild, wild, wild, wild, wild, wild, wild, wild, wild, wild, wild, wild, wild, wild, wild, wild, wild, wild, wild, wild, wild, wild, wild, wild, wild, wild, wild, wild, wild, wild, wild, wild, wild, wild, wild, wild, wild, wild, wild, wild, wild, wild, wild, wild, wild, wild, wild, wild, wild, wild, wild, wild, wild, wild, wild, wild, wild, wild, wild]) (fun (s : Int × Int × Int × Int × (List Value) × (List Value) × Nat × Nat × (List Value) × (List Value) × Nat × Nat × (List (Int × Int)) × (List Int)) => match s with | (u, v, x, y, L, sp, n, e, M, sq, k, f, Q, U) => [([ii a, ii b], some t_impl_Point), ([ii c, ii d], some t_impl_Point), (L ++ sp, some t_impl_Point), (M ++ sq, some 2)]) (fun (s : Int × Int × Int × Int × (List Value) × (List Value) × Nat × Nat × (List Value) × (List Value) × Nat × Nat × (List (Int × Int)) × (List Int)) => match s with | (u, v, x, y, L, sp, n, e, M, sq, k, f, Q, U) => 2002 - n) (fun (s : Int × Int × Int × Int × (List Value) × (List Value) × Nat × Nat × (List Value) × (List Value) × Nat × Nat × (List (Int × Int)) × (List Int)) => match s with | (u, v, x, y, L, sp, n, e, M, sq, k, f, Q, U) => SailN a b c d (sailT a b c d 2) u v x y L sp n e M sq k f Q U) (_, _, _, _, _, [], 2, 2, [ii 2], [], 1, 1, _, _) (by exact SailN.start (t0 := 2) h) ?_) (tmR_rfl rfl rfl) ⟨⟨⟨_, rfl, .plain rfl rfl (by first | exact Plain.of rfl | exact Row.all (by assumption))⟩⟩, ⟨⟨_, rfl, .plain rfl rfl (by first | exact Plain.of rfl | exact Row.all (by assumption))⟩⟩, ⟨⟨_, rfl, .plain (List.append_nil _).symm rfl (Plain.of rfl)⟩⟩, ⟨⟨_, rfl, .plain rfl rfl (Plain.of rfl)⟩⟩, trivial⟩ rfl rfl; rintro fuel_ ⟨u, v, x, y, L, sp, n, e, M, sq, k, f, Q, U⟩ hI IH; replace hI : SailN a b c d (sailT a b c d 2) u v x y L sp n e M sq k f Q U := hI; conv => whnf)
    | exact next_forget [0, 1, _, _] (IH (_, _, _, _, _, _, _, _, _, _, _, _, Q ++ [(u, v)], U ++ [turnP c d u v x y]) (by exact hI.next (by have h8_ := of_decide_eq_false (show decide (detF x y c d = 0) = false by assumption); rw [hI.inv.detP] at h8_; exact h8_) (by have h9_ := of_decide_eq_false (show decide ((n : Int) > 2000) = false by assumption); omega) ra_ rb_) (by show 2002 - (n + 1) < 2002 - n; have := hI.n2; omega)) (tmR_rfl rfl rfl) ⟨⟨⟨_, rfl, .plain rfl rfl (by first | exact Plain.of rfl | exact Row.all (by assumption))⟩⟩, ⟨⟨_, rfl, .plain rfl rfl (by first | exact Plain.of rfl | exact Row.all (by assumption))⟩⟩, ⟨⟨_, rfl, .plain rfl rfl (Row.all ra_)⟩⟩, ⟨⟨_, rfl, .plain rfl rfl (Row.all rb_)⟩⟩, trivial⟩ rfl rfl
    | (show AppK _ _ _ 2 _ _ _ _ _; refine app_lit hI.row rfl rfl rfl (Plain.of rfl) rfl rfl (by decide) (by have := hI.n2; show (_ + 1) * 16 ≤ _; omega) (by have := hI.n2; omega) (fun hle_ spa_ ra_ => ?_) (fun hle_ ca_ spa_ ra_ => ?_) <;> conv => whnf)
    | (show AppK _ _ _ 1 _ _ _ _ _; refine app_lit hI.row2 rfl rfl rfl (Plain.of rfl) rfl rfl (by decide) (by have := hI.n2; have := hI.kn; show (_ + 1) * 8 ≤ _; omega) (by have := hI.n2; have := hI.kn; omega) (fun hle_ spb_ rb_ => ?_) (fun hle_ cb_ spb_ rb_ => ?_) <;> conv => whnf)
    | (refine br_in (by have := hI.pn; have := hI.n2; (try clear IH); (try simp only [w64_def] at *); omega) (by have := hI.pn; have := hI.n2; (try clear IH); (try simp only [w64_def] at *); omega) ?_; conv => whnf)
    | (refine force_eq (hI.at2 ?_) ?_; (focus (simp only [show Int.toNat 0 = 0 from rfl, show (w64 (0 + 1)) = 1 from rfl, show Int.toNat 1 = 1 from rfl, Nat.zero_mul, Nat.one_mul, Nat.mul_one, Nat.add_zero, Nat.zero_add]; done)); conv => whnf)
    | (refine force_eq (hI.at1 ?_) ?_; (focus (simp only [show Int.toNat 0 = 0 from rfl, show (w64 (0 + 1)) = 1 from rfl, show Int.toNat 1 = 1 from rfl, Nat.zero_mul, Nat.one_mul, Nat.mul_one, Nat.add_zero, Nat.zero_add]; done)); conv => whnf)
    | (refine force_eq (hI.at20 ?_) ?_; (focus (simp only [show Int.toNat 0 = 0 from rfl, show (w64 (0 + 1)) = 1 from rfl, show Int.toNat 1 = 1 from rfl, Nat.zero_mul, Nat.one_mul, Nat.mul_one, Nat.add_zero, Nat.zero_add]; done)); conv => whnf)
    | (refine force_eq (hI.at21 ?_) ?_; (focus (simp only [show Int.toNat 0 = 0 from rfl, show (w64 (0 + 1)) = 1 from rfl, show Int.toNat 1 = 1 from rfl, Nat.zero_mul, Nat.one_mul, Nat.mul_one, Nat.add_zero, Nat.zero_add]; done)); conv => whnf)
    | (refine And.intro ?_ ?_ <;> conv => whnf)
    | exact out_forget [] ⟨rfl, rfl⟩ rfl (okB2_spec rfl) trivial rfl rfl
    | exact absurd ht (hI.some (by have h8_ := of_decide_eq_true (show decide (detF x y c d = 0) = true by assumption); rw [hI.inv.detP] at h8_; exact h8_) (by have h9_ := of_decide_eq_false (show decide ((n : Int) > 2000) = false by assumption); omega))
    | (refine StoreK.mk rfl ?_; conv => whnf)
    | exact join_same
    | exact (by assumption : (_ : Bool) = (_ : Bool))
    | (refine br_true (by assumption) ?_; conv => whnf)
    | (refine br_false (by assumption) ?_; conv => whnf)
    | (refine br_not ?_; conv => whnf)
    | (refine br_code ?_; conv => whnf)
    | (with_reducible refine br_and ?_; conv => whnf)
    | (with_reducible refine br_or ?_; conv => whnf)
    | (refine br_eq2 ?_; conv => whnf)
    | (refine c_spec_l01Det.call ?_; conv => whnf)
    | (refine c_spec_l01Det.quiet ?_; conv => whnf)
    | (refine (c_spec_l01Base ?_).call ?_ <;> conv => whnf)
    | (refine (c_spec_l01Base ?_).quiet ?_ <;> conv => whnf)
    | (refine (c_spec_l01Floor ?_).call ?_ <;> conv => whnf)
    | (refine (c_spec_l01Floor ?_).quiet ?_ <;> conv => whnf)
    | (refine c_spec_l01Plus.call ?_; conv => whnf)
    | (refine c_spec_l01Plus.quiet ?_; conv => whnf)
    | (refine draw_auto (by decide +kernel) ?_; conv => whnf)
    | (refine draw_asg (by decide +kernel) ?_; conv => whnf)
    | (refine draw_st (by decide +kernel) ?_; conv => whnf)
    | (refine draw_call (by decide +kernel) ?_; conv => whnf)
    | (refine enter_same (loop_n 12 ?_); conv => whnf)
    | (refine next_same ?_; conv => whnf)
    | (refine mapK_row (by assumption) ?_; conv => whnf)
    | (refine mapK_plain (Plain.of rfl) ?_; conv => whnf)
    | (refine mapK_lit ?_; conv => whnf)
    | (refine br_split (fun _ => ?_) (fun _ => ?_) <;> conv => whnf)
    | exact (rfl : (_ : Value) = _)
    | (simp only [*]; exact (rfl : (_ : Value) = _))
    | (simp [*]; done))

end Go.Proofs.Ytjakdmfodnpkkaa
