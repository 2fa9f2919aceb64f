/-
  Contracts of functions of the program (printed by a program of this work; Lean checks each).
  Conditions: as each contract states.
-/
import Derived.Test.YtnjepaboecijcaaK90
namespace Go.Proofs.Ytnjepaboecijcaa
open Go.Ev Go.RowKit
set_option maxRecDepth 100000
set_option linter.unusedVariables false
set_option linter.unusedSimpArgs false

attribute [local irreducible] isPtF isFracF plusF detF turnX turnY mateX mateY movX movY levL gnx chn

/-- Where the range begins. -/
def geoTm (n k : Nat) : List Value := [wild, wild, .pointer (some ⟨0, 0, none⟩), wild, .pointer (some ⟨1, 0, none⟩), .pointer (some ⟨2, 0, none⟩), wild, wild, .slice (some ⟨3, 0, none⟩) n k, wild, wild, wild, .pointer (some ⟨4, 0, none⟩), .pointer (some ⟨5, 0, none⟩), wild, wild, wild, wild, wild, wild, wild, wild, wild, wild, wild, wild, wild, wild, wild, wild, wild, wild, wild, wild, wild, wild, wild, wild, wild, wild, wild, wild, wild, wild, wild, wild, wild, wild, wild, wild, wild, wild, wild, wild, wild, wild, wild, wild, wild, wild, wild, wild, wild, wild, wild, wild, wild, wild, wild, wild, wild, wild, wild, wild, wild, wild, wild, wild, wild, wild, wild, wild]
def geoMem (a b : Int) (Z : List (Int × Int)) (sz : List Value) (O : List (Int × Int)) (so : List Value) (n k : Nat) : Mem := [([ii a, ii b], some t_impl_Point), ([.slice none 0 0], some 31), ([ii 0], some 2), (pl Z ++ sz, some t_impl_Point), ([ii (mateX a b), ii (mateY a b)], some t_impl_Point), ([.slice (some ⟨6, 0, none⟩) n k], some 31), (pl O ++ so, some t_impl_Point)]

set_option maxHeartbeats 2000000 in
theorem geo_head {a b c d : Int} (hp : (isPtF a b && isPtF c d) = true) (hf : (isFracF a b && isFracF c d) = true) (hM : isPtF (movX a b c d) (movY a b c d) = true) : evHd Try.prog tbl 0 6 code30 ([pt a b, pt c d] ++ undefs 80) [] (fun e tm mem => match e with | .normal => NextK 0 (fun tm mem => ∃ n k sz, Row (pl (chn (movX a b c d, movY a b c d))) sz n k 2 ∧ tm = geoTm n k ∧ mem = geoMem a b (chn (movX a b c d, movY a b c d)) sz [] [] 0 0) tm mem | _ => False) := by
  have hq_ : isPtF a b = true ∧ isPtF c d = true := (by simpa using hp); have hg_ : isFracF a b = true ∧ isFracF c d = true := (by simpa using hf); have p1_ := hq_.1; have p2_ := hq_.2; have mv_ : MovOk a b c d := ⟨hg_.1, hg_.2⟩; have hF_ := mov_fr mv_ hM; 
  conv => whnf
  all_goals (repeat' first
    | (refine enter_forget [0, 2, 3, 4, 5] (loop_rec (fun (s : Int × Int × (List (Int × Int)) × (List Value) × Nat × Nat) => match s with | (x, y, L, sp, n, k) => [wild, wild, .pointer (some ⟨0, 0, none⟩), wild, .pointer (some ⟨1, 0, none⟩), .pointer (some ⟨2, 0, none⟩), .pointer (some ⟨3, 0, none⟩), wild, .slice (some ⟨4, 0, none⟩) n k, wild, wild, wild, wild, wild, wild, wild, wild, wild, wild, wild, wild, wild, wild, wild, wild, wild, wild, wild, wild, wild, wild, wild, wild, wild, wild, wild, wild, wild, wild, wild, wild, wild, wild, wild, wild, wild, wild, wild, wild, wild, wild, wild, wild, wild, wild, wild, wild, wild, wild, wild, wild, wild, wild, wild, wild, wild, wild, wild, wild, wild, wild, wild, wild, wild, wild, wild, wild, wild, wild, wild, wild, wild]) (fun (s : Int × Int × (List (Int × Int)) × (List Value) × Nat × Nat) => match s with | (x, y, L, sp, n, k) => [([ii a, ii b], some t_impl_Point), ([.slice none 0 0], some 31), ([ii 0], some 2), ([ii x, ii y], some t_impl_Point), (pl L ++ sp, some t_impl_Point)]) (fun (s : Int × Int × (List (Int × Int)) × (List Value) × Nat × Nat) => match s with | (x, y, L, sp, n, k) => y.toNat) (fun (s : Int × Int × (List (Int × Int)) × (List Value) × Nat × Nat) => match s with | (x, y, L, sp, n, k) => GeoI (movX a b c d) (movY a b c d) x y L sp n k) (movX a b c d, movY a b c d, [(movX a b c d, movY a b c d)], [], 1, 1) (GeoI.start hF_) ?_) (tmR_rfl rfl rfl) ⟨⟨⟨_, rfl, .plain rfl rfl (by first | exact Plain.of rfl | exact Row.all (by assumption))⟩⟩, ⟨⟨_, rfl, .plain rfl rfl (by first | exact Plain.of rfl | exact Row.all (by assumption))⟩⟩, ⟨⟨_, rfl, .plain rfl rfl (by first | exact Plain.of rfl | exact Row.all (by assumption))⟩⟩, ⟨⟨_, rfl, .plain rfl rfl (by first | exact Plain.of rfl | exact Row.all (by assumption))⟩⟩, ⟨⟨_, rfl, .plain rfl rfl (by first | exact Plain.of rfl | exact Row.all (by assumption))⟩⟩, trivial⟩ rfl rfl; rintro fuel_ ⟨x, y, L, sp, n, k⟩ hI IH; replace hI : GeoI (movX a b c d) (movY a b c d) x y L sp n k := hI; conv => whnf)
    | exact next_forget [0, 1, 2, 3, 4] (IH (1, 0, L ++ [(1, 0)], spa_, n + 1, k) (by exact hI.next (of_decide_eq_true (show decide (y > 0) = true by assumption)) (gnx_one (of_decide_eq_false (show decide (y > 1) = false by assumption))) ra_) (by exact hI.mu (of_decide_eq_true (show decide (y > 0) = true by assumption)) (gnx_one (of_decide_eq_false (show decide (y > 1) = false by assumption))))) (tmR_rfl rfl rfl) ⟨⟨⟨_, rfl, .plain rfl rfl (by first | exact Plain.of rfl | exact Row.all (by assumption))⟩⟩, ⟨⟨_, rfl, .plain rfl rfl (by first | exact Plain.of rfl | exact Row.all (by assumption))⟩⟩, ⟨⟨_, rfl, .plain rfl rfl (by first | exact Plain.of rfl | exact Row.all (by assumption))⟩⟩, ⟨⟨_, rfl, .plain rfl rfl (by first | exact Plain.of rfl | exact Row.all (by assumption))⟩⟩, ⟨⟨_, rfl, .plain (by rw [pl_snoc] <;> rfl) rfl (by rw [pl_snoc]; exact Row.all ra_)⟩⟩, trivial⟩ rfl rfl
    | exact next_forget [0, 1, 2, 3, _] (IH (1, 0, L ++ [(1, 0)], spa_, n + 1, ca_) (by exact hI.next (of_decide_eq_true (show decide (y > 0) = true by assumption)) (gnx_one (of_decide_eq_false (show decide (y > 1) = false by assumption))) ra_) (by exact hI.mu (of_decide_eq_true (show decide (y > 0) = true by assumption)) (gnx_one (of_decide_eq_false (show decide (y > 1) = false by assumption))))) (tmR_rfl rfl rfl) ⟨⟨⟨_, rfl, .plain rfl rfl (by first | exact Plain.of rfl | exact Row.all (by assumption))⟩⟩, ⟨⟨_, rfl, .plain rfl rfl (by first | exact Plain.of rfl | exact Row.all (by assumption))⟩⟩, ⟨⟨_, rfl, .plain rfl rfl (by first | exact Plain.of rfl | exact Row.all (by assumption))⟩⟩, ⟨⟨_, rfl, .plain rfl rfl (by first | exact Plain.of rfl | exact Row.all (by assumption))⟩⟩, ⟨⟨_, rfl, .plain (by rw [pl_snoc] <;> rfl) rfl (by rw [pl_snoc]; exact Row.all ra_)⟩⟩, trivial⟩ rfl rfl
    | exact next_forget [0, 1, 2, 3, 4] (IH (parR0 x y, parR1 x y, L ++ [(parR0 x y, parR1 x y)], spa_, n + 1, k) (by exact hI.next (of_decide_eq_true (show decide (y > 0) = true by assumption)) (gnx_R (of_decide_eq_true (show decide (y > 1) = true by assumption)) (of_decide_eq_true (show decide (levL (parR0 x y) (parR1 x y) < levL (parL0 x y) (parL1 x y)) = true by assumption))) ra_) (by exact hI.mu (of_decide_eq_true (show decide (y > 0) = true by assumption)) (gnx_R (of_decide_eq_true (show decide (y > 1) = true by assumption)) (of_decide_eq_true (show decide (levL (parR0 x y) (parR1 x y) < levL (parL0 x y) (parL1 x y)) = true by assumption))))) (tmR_rfl rfl rfl) ⟨⟨⟨_, rfl, .plain rfl rfl (by first | exact Plain.of rfl | exact Row.all (by assumption))⟩⟩, ⟨⟨_, rfl, .plain rfl rfl (by first | exact Plain.of rfl | exact Row.all (by assumption))⟩⟩, ⟨⟨_, rfl, .plain rfl rfl (by first | exact Plain.of rfl | exact Row.all (by assumption))⟩⟩, ⟨⟨_, rfl, .plain rfl rfl (by first | exact Plain.of rfl | exact Row.all (by assumption))⟩⟩, ⟨⟨_, rfl, .plain (by rw [pl_snoc] <;> rfl) rfl (by rw [pl_snoc]; exact Row.all ra_)⟩⟩, trivial⟩ rfl rfl
    | exact next_forget [0, 1, 2, 3, _] (IH (parR0 x y, parR1 x y, L ++ [(parR0 x y, parR1 x y)], spa_, n + 1, ca_) (by exact hI.next (of_decide_eq_true (show decide (y > 0) = true by assumption)) (gnx_R (of_decide_eq_true (show decide (y > 1) = true by assumption)) (of_decide_eq_true (show decide (levL (parR0 x y) (parR1 x y) < levL (parL0 x y) (parL1 x y)) = true by assumption))) ra_) (by exact hI.mu (of_decide_eq_true (show decide (y > 0) = true by assumption)) (gnx_R (of_decide_eq_true (show decide (y > 1) = true by assumption)) (of_decide_eq_true (show decide (levL (parR0 x y) (parR1 x y) < levL (parL0 x y) (parL1 x y)) = true by assumption))))) (tmR_rfl rfl rfl) ⟨⟨⟨_, rfl, .plain rfl rfl (by first | exact Plain.of rfl | exact Row.all (by assumption))⟩⟩, ⟨⟨_, rfl, .plain rfl rfl (by first | exact Plain.of rfl | exact Row.all (by assumption))⟩⟩, ⟨⟨_, rfl, .plain rfl rfl (by first | exact Plain.of rfl | exact Row.all (by assumption))⟩⟩, ⟨⟨_, rfl, .plain rfl rfl (by first | exact Plain.of rfl | exact Row.all (by assumption))⟩⟩, ⟨⟨_, rfl, .plain (by rw [pl_snoc] <;> rfl) rfl (by rw [pl_snoc]; exact Row.all ra_)⟩⟩, trivial⟩ rfl rfl
    | exact next_forget [0, 1, 2, 3, 4] (IH (parL0 x y, parL1 x y, L ++ [(parL0 x y, parL1 x y)], spa_, n + 1, k) (by exact hI.next (of_decide_eq_true (show decide (y > 0) = true by assumption)) (gnx_L (of_decide_eq_true (show decide (y > 1) = true by assumption)) (of_decide_eq_false (show decide (levL (parR0 x y) (parR1 x y) < levL (parL0 x y) (parL1 x y)) = false by assumption))) ra_) (by exact hI.mu (of_decide_eq_true (show decide (y > 0) = true by assumption)) (gnx_L (of_decide_eq_true (show decide (y > 1) = true by assumption)) (of_decide_eq_false (show decide (levL (parR0 x y) (parR1 x y) < levL (parL0 x y) (parL1 x y)) = false by assumption))))) (tmR_rfl rfl rfl) ⟨⟨⟨_, rfl, .plain rfl rfl (by first | exact Plain.of rfl | exact Row.all (by assumption))⟩⟩, ⟨⟨_, rfl, .plain rfl rfl (by first | exact Plain.of rfl | exact Row.all (by assumption))⟩⟩, ⟨⟨_, rfl, .plain rfl rfl (by first | exact Plain.of rfl | exact Row.all (by assumption))⟩⟩, ⟨⟨_, rfl, .plain rfl rfl (by first | exact Plain.of rfl | exact Row.all (by assumption))⟩⟩, ⟨⟨_, rfl, .plain (by rw [pl_snoc] <;> rfl) rfl (by rw [pl_snoc]; exact Row.all ra_)⟩⟩, trivial⟩ rfl rfl
    | exact next_forget [0, 1, 2, 3, _] (IH (parL0 x y, parL1 x y, L ++ [(parL0 x y, parL1 x y)], spa_, n + 1, ca_) (by exact hI.next (of_decide_eq_true (show decide (y > 0) = true by assumption)) (gnx_L (of_decide_eq_true (show decide (y > 1) = true by assumption)) (of_decide_eq_false (show decide (levL (parR0 x y) (parR1 x y) < levL (parL0 x y) (parL1 x y)) = false by assumption))) ra_) (by exact hI.mu (of_decide_eq_true (show decide (y > 0) = true by assumption)) (gnx_L (of_decide_eq_true (show decide (y > 1) = true by assumption)) (of_decide_eq_false (show decide (levL (parR0 x y) (parR1 x y) < levL (parL0 x y) (parL1 x y)) = false by assumption))))) (tmR_rfl rfl rfl) ⟨⟨⟨_, rfl, .plain rfl rfl (by first | exact Plain.of rfl | exact Row.all (by assumption))⟩⟩, ⟨⟨_, rfl, .plain rfl rfl (by first | exact Plain.of rfl | exact Row.all (by assumption))⟩⟩, ⟨⟨_, rfl, .plain rfl rfl (by first | exact Plain.of rfl | exact Row.all (by assumption))⟩⟩, ⟨⟨_, rfl, .plain rfl rfl (by first | exact Plain.of rfl | exact Row.all (by assumption))⟩⟩, ⟨⟨_, rfl, .plain (by rw [pl_snoc] <;> rfl) rfl (by rw [pl_snoc]; exact Row.all ra_)⟩⟩, trivial⟩ rfl rfl
    | (show AppK _ _ _ 2 _ _ _ _ _; refine app_lit hI.row rfl rfl rfl (Plain.of rfl) rfl rfl (by decide) (by have := hI.bd hF_; show (_ + 1) * 16 ≤ _; omega) (by have := hI.bd hF_; omega) (fun hle_ spa_ ra_ => ?_) (fun hle_ ca_ spa_ ra_ => ?_) <;> conv => whnf)
    | (have e_ := hI.fin (of_decide_eq_false (show decide (y > 0) = false by assumption)); subst e_; exact next_forget [0, 1, 2, 4, 6, 7, 5] ⟨n, k, sp, hI.row, rfl, rfl⟩ (tmR_rfl rfl rfl) ⟨⟨⟨_, rfl, .plain rfl rfl (by first | exact Plain.of rfl | exact Row.all (by assumption))⟩⟩, ⟨⟨_, rfl, .plain rfl rfl (by first | exact Plain.of rfl | exact Row.all (by assumption))⟩⟩, ⟨⟨_, rfl, .plain rfl rfl (by first | exact Plain.of rfl | exact Row.all (by assumption))⟩⟩, ⟨⟨_, rfl, .plain rfl rfl (Row.all hI.row)⟩⟩, ⟨⟨_, rfl, .plain rfl rfl (by first | exact Plain.of rfl | exact Row.all (by assumption))⟩⟩, ⟨⟨_, rfl, .lit rfl rfl (fun v hv => okB0_spec (allL_spec rfl v hv))⟩⟩, ⟨⟨_, rfl, .plain rfl rfl (by first | exact Plain.of rfl | exact Row.all (by assumption))⟩⟩, trivial⟩ rfl rfl)
    | exact p1_
    | exact hM
    | (exact (hI.fr.par (by have := of_decide_eq_true (show decide (y > 1) = true by assumption); omega)))
    | (exact fr_parR (hI.fr.par (by have := of_decide_eq_true (show decide (y > 1) = true by assumption); omega)))
    | (exact fr_parL (hI.fr.par (by have := of_decide_eq_true (show decide (y > 1) = true by assumption); omega)))
    | (refine StoreK.mk rfl ?_; conv => whnf)
    | exact join_same
    | exact (by assumption : (_ : Bool) = (_ : Bool))
    | (refine br_true (by assumption) ?_; conv => whnf)
    | (refine br_false (by assumption) ?_; conv => whnf)
    | (refine br_not ?_; conv => whnf)
    | (refine br_code ?_; conv => whnf)
    | (with_reducible refine br_and ?_; conv => whnf)
    | (with_reducible refine br_or ?_; conv => whnf)
    | (refine br_eq2 ?_; conv => whnf)
    | (refine (c_led_ok ?_ ?_ ?_).call ?_ <;> conv => whnf)
    | (refine (c_led_ok ?_ ?_ ?_).quiet ?_ <;> conv => whnf)
    | (refine (c_led_no3 ?_ ?_ ?_).call ?_ <;> conv => whnf)
    | (refine (c_led_no3 ?_ ?_ ?_).quiet ?_ <;> conv => whnf)
    | (refine (c_led_no2 ?_ ?_).call ?_ <;> conv => whnf)
    | (refine (c_led_no2 ?_ ?_).quiet ?_ <;> conv => whnf)
    | (refine (c_led_no1 ?_).call ?_ <;> conv => whnf)
    | (refine (c_led_no1 ?_).quiet ?_ <;> conv => whnf)
    | (refine (c_impl_Point_parents ?_).call ?_ <;> conv => whnf)
    | (refine (c_impl_Point_parents ?_).quiet ?_ <;> conv => whnf)
    | (refine (c_level ?_).call ?_ <;> conv => whnf)
    | (refine (c_level ?_).quiet ?_ <;> conv => whnf)
    | (refine (c_impl_Point_mate ?_).call ?_ <;> conv => whnf)
    | (refine (c_impl_Point_mate ?_).quiet ?_ <;> conv => whnf)
    | (refine c_impl_Point_plus.call ?_; conv => whnf)
    | (refine c_impl_Point_plus.quiet ?_; conv => whnf)
    | (refine c_impl_Point_fraction.call ?_; conv => whnf)
    | (refine c_impl_Point_fraction.quiet ?_; conv => whnf)
    | (refine c_impl_Point_told.call ?_; conv => whnf)
    | (refine c_impl_Point_told.quiet ?_; conv => whnf)
    | (refine draw_auto (by decide +kernel) ?_; conv => whnf)
    | (refine draw_asg (by decide +kernel) ?_; conv => whnf)
    | (refine draw_st (by decide +kernel) ?_; conv => whnf)
    | (refine draw_call (by decide +kernel) ?_; conv => whnf)
    | (refine enter_same (loop_n 12 ?_); conv => whnf)
    | (refine next_same ?_; conv => whnf)
    | (refine mapK_row (by assumption) ?_; conv => whnf)
    | (refine mapK_plain (Plain.of rfl) ?_; conv => whnf)
    | (refine mapK_lit ?_; conv => whnf)
    | (refine br_split (fun _ => ?_) (fun _ => ?_) <;> conv => whnf)
    | exact (rfl : (_ : Value) = _)
    | (simp only [*]; exact (rfl : (_ : Value) = _))
    | (simp [*]; done))

def rgA (c : Code) : Code := match c with
  | .seq (.seq _ (.block _ (.rangeFunc _ _ a _))) _ => a
  | _ => .skip
def rgB (c : Code) : Code := match c with
  | .seq (.seq _ (.block _ (.rangeFunc _ _ _ b))) _ => b
  | _ => .skip
noncomputable def geoT : Code := tailC 6 code30
def dead6 : Mem := [([], none), ([], none), ([], none), ([], none), ([], none), ([], none)]
def wild82 : List Value := [wild, wild, wild, wild, wild, wild, wild, wild, wild, wild, wild, wild, wild, wild, wild, wild, wild, wild, wild, wild, wild, wild, wild, wild, wild, wild, wild, wild, wild, wild, wild, wild, wild, wild, wild, wild, wild, wild, wild, wild, wild, wild, wild, wild, wild, wild, wild, wild, wild, wild, wild, wild, wild, wild, wild, wild, wild, wild, wild, wild, wild, wild, wild, wild, wild, wild, wild, wild, wild, wild, wild, wild, wild, wild, wild, wild, wild, wild, wild, wild, wild, wild]

end Go.Proofs.Ytnjepaboecijcaa
