/-
  Contracts of functions of the program (printed by a program of this work; Lean checks each).
  Conditions: as each contract states.
-/
import Derived.Test.YtjakdmfodnpkkaaK16
import Derived.Test.YtjakdmfodnpkkaaVert
namespace Go.Proofs.Ytjakdmfodnpkkaa
open Go.Ev Go.RowKit
set_option maxRecDepth 100000
set_option linter.unusedVariables false
set_option linter.unusedSimpArgs false

theorem c_vertices {P : List (Int × Int)} {t : List Int} {sp sq : List Value} {n c j k : Nat} (h1 : Row (pl P) sp n c 2) (h2 : Row (il t) sq j k 1) (hj : j ≤ 2000) : CallOK Try.prog n_impl_sail_vertices [.pointer (some ⟨0, 0, none⟩)] [([.slice (some ⟨1, 0, none⟩) n c, .slice (some ⟨2, 0, none⟩) j k], none), (pl P ++ sp, none), (il t ++ sq, none)] (fun v m_ => ∃ n2 c2 s2, Row (il ((vertTo t t.length).map Int.ofNat)) s2 n2 c2 1 ∧ n2 ≤ 2000 ∧ v = .slice (some ⟨3, 0, none⟩) n2 c2 ∧ m_ = [([.slice (some ⟨1, 0, none⟩) n c, .slice (some ⟨2, 0, none⟩) j k], none), (pl P ++ sp, none), (il t ++ sq, none), (il ((vertTo t t.length).map Int.ofNat) ++ s2, some 3)]) := by
  obtain rfl := row_il h2; refine callOK_ofF good fn_impl_sail_vertices ?_
  conv => whnf
  all_goals (repeat' first
    | (refine enter_forget [3] (loop_rec (fun (s : Int × (List Value) × (List Value) × Nat × Nat) => match s with | (i, L, s2, n2, c2) => [.pointer (some ⟨0, 0, none⟩), wild, wild, .slice (some ⟨3, 0, none⟩) n2 c2, wild, wild, wild, wild, wild, wild, .slice (some ⟨2, 0, none⟩) t.length k, ii (t.length : Int), ii i, wild, wild, wild, wild, wild, wild, wild, wild, wild, wild, wild, wild, wild, wild, wild, wild, wild, wild, wild, wild, wild, wild, wild, wild, wild, wild]) (fun (s : Int × (List Value) × (List Value) × Nat × Nat) => match s with | (i, L, s2, n2, c2) => [([.slice (some ⟨1, 0, none⟩) n c, .slice (some ⟨2, 0, none⟩) t.length k], none), (pl P ++ sp, none), (il t ++ sq, none), (L ++ s2, some 3)]) (fun (s : Int × (List Value) × (List Value) × Nat × Nat) => match s with | (i, L, s2, n2, c2) => ((t.length : Int) - i).toNat) (fun (s : Int × (List Value) × (List Value) × Nat × Nat) => match s with | (i, L, s2, n2, c2) => VertI t i L s2 n2 c2) (0, [], [], 0, 0) (VertI.start t) ?_) (tmR_rfl rfl rfl) ⟨⟨⟨_, rfl, .lit rfl rfl (fun v hv => okB0_spec (allL_spec rfl v hv))⟩⟩, ⟨⟨_, rfl, .plain rfl rfl (Row.all h1)⟩⟩, ⟨⟨_, rfl, .plain rfl rfl (Row.all h2)⟩⟩, ⟨⟨_, rfl, .plain rfl rfl (by first | exact Plain.of rfl | exact Row.all (by assumption))⟩⟩, trivial⟩ rfl rfl; rintro fuel_ ⟨i, L, s2, n2, c2⟩ hI IH; replace hI : VertI t i L s2 n2 c2 := hI; conv => whnf)
    | exact next_forget [_] (IH (w64 (i + 1), _, _, _, _) (by exact hI.add (of_decide_eq_true (show decide (i < (t.length : Int)) = true by assumption)) hj (by first | exact .inl (of_decide_eq_true (by assumption)) | exact .inr (.inl (of_decide_eq_true (by assumption))) | exact .inr (.inr (of_decide_eq_true (by assumption)))) ra_) (by exact idx_mu ⟨hI.lo, hI.hi⟩ (by assumption) (by omega))) (tmR_rfl rfl rfl) ⟨⟨⟨_, rfl, .lit rfl rfl (fun v hv => okB0_spec (allL_spec rfl v hv))⟩⟩, ⟨⟨_, rfl, .plain rfl rfl (Row.all h1)⟩⟩, ⟨⟨_, rfl, .plain rfl rfl (Row.all h2)⟩⟩, ⟨⟨_, rfl, .plain rfl rfl (Row.all ra_)⟩⟩, trivial⟩ rfl rfl
    | exact next_forget [_] (IH (w64 (i + 1), _, _, _, _) (by exact hI.skip (of_decide_eq_true (show decide (i < (t.length : Int)) = true by assumption)) hj (fun hh => hh.elim (of_decide_eq_false (by assumption)) (fun hh => hh.elim (of_decide_eq_false (by assumption)) (of_decide_eq_false (by assumption))))) (by exact idx_mu ⟨hI.lo, hI.hi⟩ (by assumption) (by omega))) (tmR_rfl rfl rfl) ⟨⟨⟨_, rfl, .lit rfl rfl (fun v hv => okB0_spec (allL_spec rfl v hv))⟩⟩, ⟨⟨_, rfl, .plain rfl rfl (Row.all h1)⟩⟩, ⟨⟨_, rfl, .plain rfl rfl (Row.all h2)⟩⟩, ⟨⟨_, rfl, .plain rfl rfl (Row.all hI.row)⟩⟩, trivial⟩ rfl rfl
    | (refine br_in hI.lo (of_decide_eq_true (show decide (i < (t.length : Int)) = true by assumption)) ?_; conv => whnf)
    | (refine force_eq (take_il (i := i.toNat) (by simp only [Nat.mul_one, Nat.zero_add]) (by have := hI.lo; have := (of_decide_eq_true (show decide (i < (t.length : Int)) = true by assumption)); omega)) ?_; conv => whnf)
    | (show AppK _ _ _ 1 _ _ _ _ _; refine app_lit hI.row rfl rfl rfl (Plain.of rfl) rfl rfl (by decide) (by have := hI.num; have := hI.hi; show (_ + 1) * 8 ≤ _; omega) (by have := hI.num; have := hI.hi; omega) (fun hle_ spa_ ra_ => ?_) (fun hle_ ca_ spa_ ra_ => ?_) <;> conv => whnf)
    | (obtain ⟨rfl, h9_⟩ := hI.fin (of_decide_eq_false (by assumption)); exact out_forget [_] ⟨_, _, _, hI.row, by omega, rfl, rfl⟩ rfl (okB2_spec rfl) ⟨⟨⟨_, rfl, .lit rfl rfl (fun v hv => okB0_spec (allL_spec rfl v hv))⟩⟩, ⟨⟨_, rfl, .plain rfl rfl (Row.all h1)⟩⟩, ⟨⟨_, rfl, .plain rfl rfl (Row.all h2)⟩⟩, ⟨⟨_, rfl, .plain rfl rfl (Row.all hI.row)⟩⟩, trivial⟩ rfl rfl)
    | (refine StoreK.mk rfl ?_; conv => whnf)
    | exact join_same
    | exact (by assumption : (_ : Bool) = (_ : Bool))
    | (refine br_true (by assumption) ?_; conv => whnf)
    | (refine br_false (by assumption) ?_; conv => whnf)
    | (refine br_not ?_; conv => whnf)
    | (refine br_code ?_; conv => whnf)
    | (with_reducible refine br_and ?_; conv => whnf)
    | (with_reducible refine br_or ?_; conv => whnf)
    | (refine br_eq2 ?_; conv => whnf)
    | (refine draw_auto (by decide +kernel) ?_; conv => whnf)
    | (refine draw_asg (by decide +kernel) ?_; conv => whnf)
    | (refine draw_st (by decide +kernel) ?_; conv => whnf)
    | (refine draw_call (by decide +kernel) ?_; conv => whnf)
    | (refine enter_same (loop_n 12 ?_); conv => whnf)
    | (refine next_same ?_; conv => whnf)
    | (refine mapK_row (by assumption) ?_; conv => whnf)
    | (refine mapK_plain (Plain.of rfl) ?_; conv => whnf)
    | (refine mapK_lit ?_; conv => whnf)
    | (refine br_split (fun _ => ?_) (fun _ => ?_) <;> conv => whnf)
    | exact (rfl : (_ : Value) = _)
    | (simp only [*]; exact (rfl : (_ : Value) = _))
    | (simp [*]; done))

end Go.Proofs.Ytjakdmfodnpkkaa
