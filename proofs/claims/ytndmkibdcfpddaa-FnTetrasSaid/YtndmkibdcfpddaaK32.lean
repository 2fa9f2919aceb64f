/-
  Contracts of functions of the program (printed by a program of this work; Lean checks each).
  Conditions: as each contract states.
-/
import Derived.Test.YtndmkibdcfpddaaK31
namespace Go.Proofs.Ytndmkibdcfpddaa
open Go.Ev Go.RowKit
set_option maxRecDepth 100000
set_option linter.unusedVariables false
set_option linter.unusedSimpArgs false

abbrev rl (a d g x : Int) : Int := mini (mini (mini (mini a a) d) g) x
abbrev rh (a d g x : Int) : Int := maxi (maxi (maxi (maxi a a) d) g) x
theorem rl_eq (a d g x : Int) : rl a d g x = lo4 a d g x := by simp only [rl, mini_self, lo4]
theorem rh_eq (a d g x : Int) : rh a d g x = hi4 a d g x := by simp only [rh, maxi_self, hi4]

set_option maxHeartbeats 2000000 in
theorem c_impl_Tetra_count {a b c d e f g h i x y z : Int} (k_ : TetOk a b c d e f g h i x y z) : Pure Try.prog n_impl_Tetra_count [v12 a b c d e f g h i x y z] (ii (cntF (hasF a b c d e f g h i x y z) a b c d e f g h i x y z)) := by
  have b0_ := k_.b0; have b1_ := k_.b1; have b2_ := k_.b2; rw [← rl_eq, ← rh_eq] at b0_ b1_ b2_; refine pure_of good fn_impl_Tetra_count rfl rfl ?_
  conv => whnf
  all_goals (repeat' first
    | (refine draw_pt (.take 0 (.take 1 (.take 2 (.take 3 (.take 5 (.take 7 (.take 8 (.take 10 (.join [4, 6, 9, 11, 12, 13] (.duo 4 (.take 6 (.take 12 (.duo 9 (.take 11 (.solo 13 .done)) 13 (.solo 9 (.take 11 .done))))) 9 (.take 11 (.solo 4 (.take 6 (.take 12 (.solo 13 .done)))))) (.take 14 (.solo 15 .done))))))))))) (by decide +kernel) ?_; conv => whnf)
    | (refine And.intro ?_ ?_ <;> conv => whnf)
    | exact join_same
    | (refine enter_forget [0, 1, 2] (loop_rec (fun (s : Int × Int) => match s with | (w, m3) => [wild, .pointer (some ⟨0, 0, none⟩), wild, .pointer (some ⟨1, 0, none⟩), .pointer (some ⟨2, 0, none⟩), ii m3, wild, wild, wild, wild, ii u, ii v, ii w, wild, wild, wild, wild, wild, wild, wild, wild, wild, wild, wild, wild, wild, wild, wild, wild, wild, wild, wild, wild, wild, wild, wild, wild, wild, wild, wild, wild, wild, wild, wild, wild, wild, wild, wild, wild, wild, wild, wild, wild, wild, wild, wild, wild, wild, wild, wild, wild, wild, wild, wild, wild, wild, wild, wild, wild, wild, wild, wild, wild, wild, wild]) (fun (s : Int × Int) => match s with | (w, m3) => [([ii a, ii b, ii c, ii d, ii e, ii f, ii g, ii h, ii i, ii x, ii y, ii z], some t_impl_Tetra), ([ii (rl a d g x), ii (rl b e h y), ii (rl c f i z)], some t_impl_Spot), ([ii (rh a d g x), ii (rh b e h y), ii (rh c f i z)], some t_impl_Spot)]) (fun (s : Int × Int) => match s with | (w, m3) => ((rh c f i z) + 1 - w).toNat) (fun (s : Int × Int) => match s with | (w, m3) => FoI (fun w_ m_ => if (hasF a b c d e f g h i x y z) u v w_ = true then w64 (m_ + 1) else m_) (rl c f i z) (rh c f i z) (czF (hasF a b c d e f g h i x y z) (rl c f i z) (rh c f i z) u v m2) w m3) ((rl c f i z), m2) (FoI.start b2_.1 b2_.2.1 b2_.2.2) ?_) (tmR_rfl rfl rfl) ⟨⟨⟨_, rfl, .plain rfl rfl (by first | exact Plain.of rfl | exact Row.all (by assumption))⟩⟩, ⟨⟨_, rfl, .plain rfl rfl (by first | exact Plain.of rfl | exact Row.all (by assumption))⟩⟩, ⟨⟨_, rfl, .plain rfl rfl (by first | exact Plain.of rfl | exact Row.all (by assumption))⟩⟩, trivial⟩ rfl rfl; rintro fuel_3 ⟨w, m3⟩ hI3 IH3; replace hI3 : FoI (fun w_ m_ => if (hasF a b c d e f g h i x y z) u v w_ = true then w64 (m_ + 1) else m_) (rl c f i z) (rh c f i z) (czF (hasF a b c d e f g h i x y z) (rl c f i z) (rh c f i z) u v m2) w m3 := hI3; conv => whnf)
    | (refine enter_forget [0, 1, 2] (loop_rec (fun (s : Int × Int) => match s with | (v, m2) => [wild, .pointer (some ⟨0, 0, none⟩), wild, .pointer (some ⟨1, 0, none⟩), .pointer (some ⟨2, 0, none⟩), ii m2, wild, wild, wild, wild, ii u, ii v, wild, wild, wild, wild, wild, wild, wild, wild, wild, wild, wild, wild, wild, wild, wild, wild, wild, wild, wild, wild, wild, wild, wild, wild, wild, wild, wild, wild, wild, wild, wild, wild, wild, wild, wild, wild, wild, wild, wild, wild, wild, wild, wild, wild, wild, wild, wild, wild, wild, wild, wild, wild, wild, wild, wild, wild, wild, wild, wild, wild, wild, wild, wild]) (fun (s : Int × Int) => match s with | (v, m2) => [([ii a, ii b, ii c, ii d, ii e, ii f, ii g, ii h, ii i, ii x, ii y, ii z], some t_impl_Tetra), ([ii (rl a d g x), ii (rl b e h y), ii (rl c f i z)], some t_impl_Spot), ([ii (rh a d g x), ii (rh b e h y), ii (rh c f i z)], some t_impl_Spot)]) (fun (s : Int × Int) => match s with | (v, m2) => ((rh b e h y) + 1 - v).toNat) (fun (s : Int × Int) => match s with | (v, m2) => FoI (fun v_ m_ => czF (hasF a b c d e f g h i x y z) (rl c f i z) (rh c f i z) u v_ m_) (rl b e h y) (rh b e h y) (cyF (hasF a b c d e f g h i x y z) (rl b e h y) (rh b e h y) (rl c f i z) (rh c f i z) u m1) v m2) ((rl b e h y), m1) (FoI.start b1_.1 b1_.2.1 b1_.2.2) ?_) (tmR_rfl rfl rfl) ⟨⟨⟨_, rfl, .plain rfl rfl (by first | exact Plain.of rfl | exact Row.all (by assumption))⟩⟩, ⟨⟨_, rfl, .plain rfl rfl (by first | exact Plain.of rfl | exact Row.all (by assumption))⟩⟩, ⟨⟨_, rfl, .plain rfl rfl (by first | exact Plain.of rfl | exact Row.all (by assumption))⟩⟩, trivial⟩ rfl rfl; rintro fuel_2 ⟨v, m2⟩ hI2 IH2; replace hI2 : FoI (fun v_ m_ => czF (hasF a b c d e f g h i x y z) (rl c f i z) (rh c f i z) u v_ m_) (rl b e h y) (rh b e h y) (cyF (hasF a b c d e f g h i x y z) (rl b e h y) (rh b e h y) (rl c f i z) (rh c f i z) u m1) v m2 := hI2; conv => whnf)
    | (refine enter_forget [0, 1, 2] (loop_rec (fun (s : Int × Int) => match s with | (u, m1) => [wild, .pointer (some ⟨0, 0, none⟩), wild, .pointer (some ⟨1, 0, none⟩), .pointer (some ⟨2, 0, none⟩), ii m1, wild, wild, wild, wild, ii u, wild, wild, wild, wild, wild, wild, wild, wild, wild, wild, wild, wild, wild, wild, wild, wild, wild, wild, wild, wild, wild, wild, wild, wild, wild, wild, wild, wild, wild, wild, wild, wild, wild, wild, wild, wild, wild, wild, wild, wild, wild, wild, wild, wild, wild, wild, wild, wild, wild, wild, wild, wild, wild, wild, wild, wild, wild, wild, wild, wild, wild, wild, wild, wild]) (fun (s : Int × Int) => match s with | (u, m1) => [([ii a, ii b, ii c, ii d, ii e, ii f, ii g, ii h, ii i, ii x, ii y, ii z], some t_impl_Tetra), ([ii (rl a d g x), ii (rl b e h y), ii (rl c f i z)], some t_impl_Spot), ([ii (rh a d g x), ii (rh b e h y), ii (rh c f i z)], some t_impl_Spot)]) (fun (s : Int × Int) => match s with | (u, m1) => ((rh a d g x) + 1 - u).toNat) (fun (s : Int × Int) => match s with | (u, m1) => FoI (fun u_ m_ => cyF (hasF a b c d e f g h i x y z) (rl b e h y) (rh b e h y) (rl c f i z) (rh c f i z) u_ m_) (rl a d g x) (rh a d g x) (cxF (hasF a b c d e f g h i x y z) (rl a d g x) (rh a d g x) (rl b e h y) (rh b e h y) (rl c f i z) (rh c f i z) 0) u m1) ((rl a d g x), 0) (FoI.start b0_.1 b0_.2.1 b0_.2.2) ?_) (tmR_rfl rfl rfl) ⟨⟨⟨_, rfl, .plain rfl rfl (by first | exact Plain.of rfl | exact Row.all (by assumption))⟩⟩, ⟨⟨_, rfl, .plain rfl rfl (by first | exact Plain.of rfl | exact Row.all (by assumption))⟩⟩, ⟨⟨_, rfl, .plain rfl rfl (by first | exact Plain.of rfl | exact Row.all (by assumption))⟩⟩, trivial⟩ rfl rfl; rintro fuel_1 ⟨u, m1⟩ hI1 IH1; replace hI1 : FoI (fun u_ m_ => cyF (hasF a b c d e f g h i x y z) (rl b e h y) (rh b e h y) (rl c f i z) (rh c f i z) u_ m_) (rl a d g x) (rh a d g x) (cxF (hasF a b c d e f g h i x y z) (rl a d g x) (rh a d g x) (rl b e h y) (rh b e h y) (rl c f i z) (rh c f i z) 0) u m1 := hI1; conv => whnf)
    | exact next_forget [0, 1, 2] (IH3 (w64 (w + 1), w64 (m3 + 1)) (by exact hI3.next (of_decide_eq_true (show decide (w ≤ (rh c f i z)) = true by assumption)) (by rw [if_pos (show hasF a b c d e f g h i x y z u v w = true by assumption)])) (by exact hI3.mu (of_decide_eq_true (show decide (w ≤ (rh c f i z)) = true by assumption)))) (tmR_rfl rfl rfl) ⟨⟨⟨_, rfl, .plain rfl rfl (by first | exact Plain.of rfl | exact Row.all (by assumption))⟩⟩, ⟨⟨_, rfl, .plain rfl rfl (by first | exact Plain.of rfl | exact Row.all (by assumption))⟩⟩, ⟨⟨_, rfl, .plain rfl rfl (by first | exact Plain.of rfl | exact Row.all (by assumption))⟩⟩, trivial⟩ rfl rfl
    | exact next_forget [0, 1, 2] (IH3 (w64 (w + 1), m3) (by exact hI3.next (of_decide_eq_true (show decide (w ≤ (rh c f i z)) = true by assumption)) (by rw [if_neg (by rw [show hasF a b c d e f g h i x y z u v w = false by assumption]; decide)])) (by exact hI3.mu (of_decide_eq_true (show decide (w ≤ (rh c f i z)) = true by assumption)))) (tmR_rfl rfl rfl) ⟨⟨⟨_, rfl, .plain rfl rfl (by first | exact Plain.of rfl | exact Row.all (by assumption))⟩⟩, ⟨⟨_, rfl, .plain rfl rfl (by first | exact Plain.of rfl | exact Row.all (by assumption))⟩⟩, ⟨⟨_, rfl, .plain rfl rfl (by first | exact Plain.of rfl | exact Row.all (by assumption))⟩⟩, trivial⟩ rfl rfl
    | exact next_forget [0, 1, 2] (IH2 (w64 (v + 1), m3) (by exact hI2.next (of_decide_eq_true (show decide (v ≤ (rh b e h y)) = true by assumption)) (hI3.fin (of_decide_eq_false (show decide (w ≤ (rh c f i z)) = false by assumption)))) (by exact hI2.mu (of_decide_eq_true (show decide (v ≤ (rh b e h y)) = true by assumption)))) (tmR_rfl rfl rfl) ⟨⟨⟨_, rfl, .plain rfl rfl (by first | exact Plain.of rfl | exact Row.all (by assumption))⟩⟩, ⟨⟨_, rfl, .plain rfl rfl (by first | exact Plain.of rfl | exact Row.all (by assumption))⟩⟩, ⟨⟨_, rfl, .plain rfl rfl (by first | exact Plain.of rfl | exact Row.all (by assumption))⟩⟩, trivial⟩ rfl rfl
    | exact next_forget [0, 1, 2] (IH1 (w64 (u + 1), m2) (by exact hI1.next (of_decide_eq_true (show decide (u ≤ (rh a d g x)) = true by assumption)) (hI2.fin (of_decide_eq_false (show decide (v ≤ (rh b e h y)) = false by assumption)))) (by exact hI1.mu (of_decide_eq_true (show decide (u ≤ (rh a d g x)) = true by assumption)))) (tmR_rfl rfl rfl) ⟨⟨⟨_, rfl, .plain rfl rfl (by first | exact Plain.of rfl | exact Row.all (by assumption))⟩⟩, ⟨⟨_, rfl, .plain rfl rfl (by first | exact Plain.of rfl | exact Row.all (by assumption))⟩⟩, ⟨⟨_, rfl, .plain rfl rfl (by first | exact Plain.of rfl | exact Row.all (by assumption))⟩⟩, trivial⟩ rfl rfl
    | (exact congrArg (Value.int IntKind.i64) ((hI1.fin (of_decide_eq_false (show decide (u ≤ (rh a d g x)) = false by assumption))).trans (by simp only [rl_eq, rh_eq]; rfl)))
    | (refine StoreK.mk rfl ?_; conv => whnf)
    | exact join_same
    | exact (by assumption : (_ : Bool) = (_ : Bool))
    | (refine br_true (by assumption) ?_; conv => whnf)
    | (refine br_false (by assumption) ?_; conv => whnf)
    | (refine br_not ?_; conv => whnf)
    | (refine br_code ?_; conv => whnf)
    | (with_reducible refine br_and ?_; conv => whnf)
    | (with_reducible refine br_or ?_; conv => whnf)
    | (refine br_eq2 ?_; conv => whnf)
    | (refine c_impl_Tetra_has.call ?_; conv => whnf)
    | (refine c_impl_Tetra_has.quiet ?_; conv => whnf)
    | (refine draw_auto (by decide +kernel) ?_; conv => whnf)
    | (refine draw_asg (by decide +kernel) ?_; conv => whnf)
    | (refine draw_st (by decide +kernel) ?_; conv => whnf)
    | (refine draw_call (by decide +kernel) ?_; conv => whnf)
    | (refine enter_same (loop_n 12 ?_); conv => whnf)
    | (refine next_same ?_; conv => whnf)
    | (refine mapK_row (by assumption) ?_; conv => whnf)
    | (refine mapK_plain (Plain.of rfl) ?_; conv => whnf)
    | (refine mapK_lit ?_; conv => whnf)
    | (refine br_split (fun _ => ?_) (fun _ => ?_) <;> conv => whnf)
    | exact (rfl : (_ : Value) = _)
    | (simp only [*]; exact (rfl : (_ : Value) = _))
    | (simp [*]; done))

end Go.Proofs.Ytndmkibdcfpddaa
