/-
  Contracts of functions of the program (printed by a program of this work; Lean checks each).
  Conditions: as each contract states.
-/
import Derived.Test.YtnjepaboecijcaaK80
import Derived.Test.YtnjepaboecijcaaLong
namespace Go.Proofs.Ytnjepaboecijcaa
open Go.Ev Go.RowKit
set_option maxRecDepth 100000
set_option linter.unusedVariables false
set_option linter.unusedSimpArgs false

set_option maxHeartbeats 1000000 in
theorem c_impl_FareyList_ok {m : Nat} (hm1 : 1 ≤ m) (hm : m ≤ 16) : CallOK Try.prog n_impl_FareyList [ii (m : Int)] [] (fun v m_ => ∃ n c sp, Row (pl (farL m)) sp n c 2 ∧ n ≤ 400 ∧ v = t2 (.slice (some ⟨0, 0, none⟩) n c) (ii 0) ∧ m_ = [(pl (farL m) ++ sp, some t_impl_Point)]) := by
  have hin_ : inF (m : Int) 1 16 = true := (by unfold inF; simp; omega); refine callOK_ofF good fn_impl_FareyList ?_
  conv => whnf
  all_goals (repeat' first
    | (refine enter_forget [0] (loop_rec (fun (s : Int × (List (Int × Int)) × (List Value) × Nat × Nat) => match s with | (q, L, sp, n, c) => [ii (m : Int), wild, .slice none 0 0, ii 0, .slice (some ⟨0, 0, none⟩) n c, ii q, wild, wild, wild, wild, wild, wild, wild, wild, wild, wild, wild, wild, wild, wild, wild, wild, wild, wild, wild, wild, wild, wild, wild, wild, wild, wild, wild, wild]) (fun (s : Int × (List (Int × Int)) × (List Value) × Nat × Nat) => match s with | (q, L, sp, n, c) => [(pl L ++ sp, some t_impl_Point)]) (fun (s : Int × (List (Int × Int)) × (List Value) × Nat × Nat) => match s with | (q, L, sp, n, c) => ((m : Int) + 1 - q).toNat) (fun (s : Int × (List (Int × Int)) × (List Value) × Nat × Nat) => match s with | (q, L, sp, n, c) => FlO m q L sp n c) (1, [], [], 0, 0) FlO.start ?_) (tmR_rfl rfl rfl) ⟨⟨⟨_, rfl, .plain rfl rfl Plain.nil⟩⟩, trivial⟩ rfl rfl; rintro fuel_ ⟨q, L, sp, n, c⟩ hI IH; replace hI : FlO m q L sp n c := hI; conv => whnf)
    | (refine enter_forget [0] (loop_rec (fun (s : Int × (List (Int × Int)) × (List Value) × Nat × Nat) => match s with | (p, L, sp, n, c) => [ii (m : Int), wild, .slice none 0 0, ii 0, .slice (some ⟨0, 0, none⟩) n c, ii q, ii p, wild, wild, wild, wild, wild, wild, wild, wild, wild, wild, wild, wild, wild, wild, wild, wild, wild, wild, wild, wild, wild, wild, wild, wild, wild, wild, wild]) (fun (s : Int × (List (Int × Int)) × (List Value) × Nat × Nat) => match s with | (p, L, sp, n, c) => [(pl L ++ sp, some t_impl_Point)]) (fun (s : Int × (List (Int × Int)) × (List Value) × Nat × Nat) => match s with | (p, L, sp, n, c) => (q + 1 - p).toNat) (fun (s : Int × (List (Int × Int)) × (List Value) × Nat × Nat) => match s with | (p, L, sp, n, c) => FlI m q p L sp n c) (0, L, sp, n, c) (hI.enter (by assumption)) ?_) (tmR_rfl rfl rfl) ⟨⟨⟨_, rfl, .plain rfl rfl (Row.all hI.row)⟩⟩, trivial⟩ rfl rfl; rintro fuel_2 ⟨p, L, sp, n, c⟩ hI2 IH2; replace hI2 : FlI m q p L sp n c := hI2; conv => whnf)
    | exact next_forget [0] (IH2 (w64 (p + 1), _, _, _, _) (by exact hI2.no hm (by assumption) (by assumption)) (by exact hI2.mu hm (by assumption))) (tmR_rfl rfl rfl) ⟨⟨⟨_, rfl, .plain rfl rfl (Row.all hI2.row)⟩⟩, trivial⟩ rfl rfl
    | exact next_forget [0] (IH2 (w64 (p + 1), L ++ [(p, q)], spa_, n + 1, c) (by exact hI2.yes hm (by assumption) (by assumption) ra_) (by exact hI2.mu hm (by assumption))) (tmR_rfl rfl rfl) ⟨⟨⟨_, rfl, .plain (by rw [pl_snoc] <;> rfl) rfl (by rw [pl_snoc]; exact Row.all ra_)⟩⟩, trivial⟩ rfl rfl
    | exact next_forget [_] (IH2 (w64 (p + 1), L ++ [(p, q)], spa_, n + 1, ca_) (by exact hI2.yes hm (by assumption) (by assumption) ra_) (by exact hI2.mu hm (by assumption))) (tmR_rfl rfl rfl) ⟨⟨⟨_, rfl, .plain (by rw [pl_snoc] <;> rfl) rfl (by rw [pl_snoc]; exact Row.all ra_)⟩⟩, trivial⟩ rfl rfl
    | exact next_forget [0] (IH (w64 (q + 1), _, _, _, _) (by exact hI2.out hm (by assumption)) (by exact hI2.mu0 hm)) (tmR_rfl rfl rfl) ⟨⟨⟨_, rfl, .plain rfl rfl (Row.all hI2.row)⟩⟩, trivial⟩ rfl rfl
    | (show AppK _ _ _ 2 _ _ _ _ _; refine app_lit hI2.row rfl rfl rfl (Plain.of rfl) rfl rfl (by decide) (by have := hI2.bd hm; show (_ + 1) * 16 ≤ _; omega) (by have := hI2.bd hm; omega) (fun hle_ spa_ ra_ => ?_) (fun hle_ ca_ spa_ ra_ => ?_) <;> conv => whnf)
    | (have e_ := hI.fin (by assumption); refine CallOK.useR (c_sort hI.row (e_ ▸ setL_bd hm1 hm) (by have := hI.bd hm; omega)) [_] rfl rfl rfl ⟨⟨⟨_, rfl, .plain rfl (fun _ h_ => h_) (Row.all hI.row)⟩⟩, trivial⟩ (fun v_ mem_ hR => ?_); obtain ⟨L2_, hp_, hs_, rfl, rfl⟩ := hR; have hbd_ := hI.bd hm; have hrow2_ := row_perm hI.row hp_.length_eq; obtain rfl : L2_ = farL m := far_sorted (FarOk.of hm1 hm) (e_ ▸ hp_) hs_; refine ⟨rfl, ?_⟩; conv => whnf)
    | (exact out_forget [0] ⟨_, _, _, hrow2_, hbd_, rfl, rfl⟩ rfl (okB2_spec rfl) ⟨⟨⟨_, rfl, .plain rfl rfl (Row.all hrow2_)⟩⟩, trivial⟩ rfl rfl)
    | (refine StoreK.mk rfl ?_; conv => whnf)
    | exact join_same
    | exact (by assumption : (_ : Bool) = (_ : Bool))
    | (refine br_true (by assumption) ?_; conv => whnf)
    | (refine br_false (by assumption) ?_; conv => whnf)
    | (refine br_not ?_; conv => whnf)
    | (refine br_code ?_; conv => whnf)
    | (with_reducible refine br_and ?_; conv => whnf)
    | (with_reducible refine br_or ?_; conv => whnf)
    | (refine br_eq2 ?_; conv => whnf)
    | (refine c_impl_in.call ?_; conv => whnf)
    | (refine c_impl_in.quiet ?_; conv => whnf)
    | (refine c_impl_gcd.call ?_; conv => whnf)
    | (refine c_impl_gcd.quiet ?_; conv => whnf)
    | (refine draw_auto (by decide +kernel) ?_; conv => whnf)
    | (refine draw_asg (by decide +kernel) ?_; conv => whnf)
    | (refine draw_st (by decide +kernel) ?_; conv => whnf)
    | (refine draw_call (by decide +kernel) ?_; conv => whnf)
    | (refine enter_same (loop_n 12 ?_); conv => whnf)
    | (refine next_same ?_; conv => whnf)
    | (refine mapK_row (by assumption) ?_; conv => whnf)
    | (refine mapK_plain (Plain.of rfl) ?_; conv => whnf)
    | (refine mapK_lit ?_; conv => whnf)
    | (refine br_split (fun _ => ?_) (fun _ => ?_) <;> conv => whnf)
    | exact (rfl : (_ : Value) = _)
    | (simp only [*]; exact (rfl : (_ : Value) = _))
    | (simp [*]; done))

end Go.Proofs.Ytnjepaboecijcaa
