/-
  Contracts of functions of the program (printed by a program of this work; Lean checks each).
  Conditions: as each contract states.
-/
import Derived.Test.YtnjepaboecijcaaK80
import Derived.Test.YtnjepaboecijcaaLong
namespace Go.Proofs.Ytnjepaboecijcaa
open Go.Ev Go.RowKit
set_option maxRecDepth 100000
set_option linter.unusedVariables false
set_option linter.unusedSimpArgs false

set_option maxHeartbeats 2000000 in
theorem c_spec_FareyList_ok {m : Nat} (hm1 : 1 ≤ m) (hm : m ≤ 16) : CallOK Try.prog n_spec_FareyList [ii (m : Int)] [] (fun v m_ => ∃ n c sp, Row (pl (farL m)) sp n c 2 ∧ n ≤ 400 ∧ v = t2 (.slice (some ⟨0, 0, none⟩) n c) (ii 0) ∧ m_ = [(pl (farL m) ++ sp, some t_impl_Point)]) := by
  have hf_ := FarOk.of hm1 hm; have hin_ : inF (m : Int) 1 16 = true := (by unfold inF; simp; omega); refine callOK_ofF good fn_spec_FareyList ?_
  conv => whnf
  all_goals (repeat' first
    | (refine enter_forget [0] (loop_rec (fun (s : Int × (List (Int × Int)) × (List Value) × Nat × Nat) => match s with | (k, L, sp, n, c) => [ii (m : Int), wild, .slice none 0 0, ii 0, .slice (some ⟨0, 0, none⟩) n c, ii k, wild, wild, wild, wild, wild, wild, wild, wild, wild, wild, wild, wild, wild, wild, wild, wild, wild, wild, wild, wild, wild, wild, wild, wild, wild, wild, wild, wild, wild, wild, wild, wild, wild, wild, wild, wild, wild, wild, wild, wild, wild, wild, wild, wild, wild, wild, wild, wild, wild, wild, wild, wild, wild, wild, wild, wild, wild, wild, wild, wild]) (fun (s : Int × (List (Int × Int)) × (List Value) × Nat × Nat) => match s with | (k, L, sp, n, c) => [(pl L ++ sp, some t_impl_Point)]) (fun (s : Int × (List (Int × Int)) × (List Value) × Nat × Nat) => match s with | (k, L, sp, n, c) => ((farN m).length : Int).toNat - k.toNat) (fun (s : Int × (List (Int × Int)) × (List Value) × Nat × Nat) => match s with | (k, L, sp, n, c) => FlS m k L sp n c) (1, [(0, 1), (1, (m : Int))], [], 2, 2) (FlS.start hf_) ?_) (tmR_rfl rfl rfl) ⟨⟨⟨_, rfl, .plain rfl rfl (Plain.of rfl)⟩⟩, trivial⟩ rfl rfl; rintro fuel_ ⟨k, L, sp, n, c⟩ hI IH; replace hI : FlS m k L sp n c := hI; conv => whnf)
    | exact next_forget [0] (IH (w64 (k + 1), L ++ [nxtF (m : Int) (L.getD (w64 (k - 1)).toNat (0, 0)) (L.getD k.toNat (0, 0))], spa_, n + 1, c) (by exact hI.next hf_ hm (by assumption) ra_) (by exact hI.mu hf_)) (tmR_rfl rfl rfl) ⟨⟨⟨_, rfl, .plain (by rw [pl_snoc] <;> rfl) rfl (by rw [pl_snoc]; exact Row.all ra_)⟩⟩, trivial⟩ rfl rfl
    | exact next_forget [_] (IH (w64 (k + 1), L ++ [nxtF (m : Int) (L.getD (w64 (k - 1)).toNat (0, 0)) (L.getD k.toNat (0, 0))], spa_, n + 1, ca_) (by exact hI.next hf_ hm (by assumption) ra_) (by exact hI.mu hf_)) (tmR_rfl rfl rfl) ⟨⟨⟨_, rfl, .plain (by rw [pl_snoc] <;> rfl) rfl (by rw [pl_snoc]; exact Row.all ra_)⟩⟩, trivial⟩ rfl rfl
    | (refine br_in (by have := hI.ix; omega) (by have := hI.ix; omega) ?_; conv => whnf)
    | (refine force_eq (take_pt0 (ps := L) (i := (k).toNat) ?_ ?_) ?_; (focus (omega)); (focus (have := hI.ix; omega)); conv => whnf)
    | (refine force_eq (take_pt0 (ps := L) (i := (w64 (k - 1)).toNat) ?_ ?_) ?_; (focus (omega)); (focus (have := hI.ix; omega)); conv => whnf)
    | (refine force_eq (take_pt1 (ps := L) (i := (k).toNat) ?_ ?_) ?_; (focus (omega)); (focus (have := hI.ix; omega)); conv => whnf)
    | (refine force_eq (take_pt1 (ps := L) (i := (w64 (k - 1)).toNat) ?_ ?_) ?_; (focus (omega)); (focus (have := hI.ix; omega)); conv => whnf)
    | (refine force_eq (take_pt (ps := L) (i := (k).toNat) ?_ ?_) ?_; (focus (omega)); (focus (have := hI.ix; omega)); conv => whnf)
    | (refine force_eq (take_pt (ps := L) (i := (w64 (k - 1)).toNat) ?_ ?_) ?_; (focus (omega)); (focus (have := hI.ix; omega)); conv => whnf)
    | (exact (hI.nz hf_ (eq_of_dec (by assumption))).elim)
    | (refine draw_pt (.take 0 (.take 1 (.take 2 (.take 3 (.take 4 (.take 5 (.take 8 (.take 9 (.take 10 (.take 11 (.take 12 (.take 16 (.take 17 (.take 18 (.take 20 (.trio 6 (.take 7 (.duo 13 (.take 14 (.take 15 (.solo 19 (.solo 21 (.solo 22 (.solo 23 (.solo 24 .done))))))) 19 (.solo 13 (.take 14 (.take 15 (.solo 21 (.solo 22 (.solo 23 (.solo 24 .done))))))))) 13 (.take 14 (.duo 6 (.take 7 (.take 15 (.solo 19 (.solo 21 (.solo 22 (.solo 23 (.solo 24 .done))))))) 19 (.solo 6 (.take 7 (.take 15 (.solo 21 (.solo 22 (.solo 23 (.solo 24 .done))))))))) 19 (.duo 6 (.take 7 (.solo 13 (.take 14 (.take 15 (.solo 21 (.solo 22 (.solo 23 (.solo 24 .done)))))))) 13 (.take 14 (.solo 6 (.take 7 (.take 15 (.solo 21 (.solo 22 (.solo 23 (.solo 24 .done))))))))))))))))))))))))) (by decide +kernel) ?_; conv => whnf)
    | (refine And.intro ?_ ?_ <;> conv => whnf)
    | (show AppK _ _ _ 2 _ _ _ _ _; refine app_lit hI.row rfl rfl rfl (Plain.of rfl) rfl rfl (by decide) (by have := hI.ix; have := this.2.2.2.2.2.2.2.2 hf_; show (_ + 1) * 16 ≤ _; omega) (by have := hI.ix; have := this.2.2.2.2.2.2.2.2 hf_; omega) (fun hle_ spa_ ra_ => ?_) (fun hle_ ca_ spa_ ra_ => ?_) <;> conv => whnf)
    | (have e_ := hI.fin hf_ (by assumption); subst e_; have hrow2_ := hI.row; have hbd_ := hI.ix.2.2.2.2.2.2.2.2 hf_; exact out_forget [0] ⟨_, _, _, hrow2_, by omega, rfl, rfl⟩ rfl (okB2_spec rfl) ⟨⟨⟨_, rfl, .plain rfl rfl (Row.all hrow2_)⟩⟩, trivial⟩ rfl rfl)
    | (refine StoreK.mk rfl ?_; conv => whnf)
    | exact join_same
    | exact (by assumption : (_ : Bool) = (_ : Bool))
    | (refine br_true (by assumption) ?_; conv => whnf)
    | (refine br_false (by assumption) ?_; conv => whnf)
    | (refine br_not ?_; conv => whnf)
    | (refine br_code ?_; conv => whnf)
    | (with_reducible refine br_and ?_; conv => whnf)
    | (with_reducible refine br_or ?_; conv => whnf)
    | (refine br_eq2 ?_; conv => whnf)
    | (refine c_spec_l01In.call ?_; conv => whnf)
    | (refine c_spec_l01In.quiet ?_; conv => whnf)
    | (refine c_spec_l01Plus.call ?_; conv => whnf)
    | (refine c_spec_l01Plus.quiet ?_; conv => whnf)
    | (refine draw_auto (by decide +kernel) ?_; conv => whnf)
    | (refine draw_asg (by decide +kernel) ?_; conv => whnf)
    | (refine draw_st (by decide +kernel) ?_; conv => whnf)
    | (refine draw_call (by decide +kernel) ?_; conv => whnf)
    | (refine enter_same (loop_n 12 ?_); conv => whnf)
    | (refine next_same ?_; conv => whnf)
    | (refine mapK_row (by assumption) ?_; conv => whnf)
    | (refine mapK_plain (Plain.of rfl) ?_; conv => whnf)
    | (refine mapK_lit ?_; conv => whnf)
    | (refine br_split (fun _ => ?_) (fun _ => ?_) <;> conv => whnf)
    | exact (rfl : (_ : Value) = _)
    | (simp only [*]; exact (rfl : (_ : Value) = _))
    | (simp [*]; done))

end Go.Proofs.Ytnjepaboecijcaa
