/-
  Contracts of functions of the program (printed by a program of this work; Lean checks each).
  Conditions: as each contract states.
-/
import Derived.Test.YtnjepaboecijcaaK91
namespace Go.Proofs.Ytnjepaboecijcaa
open Go.Ev Go.RowKit
set_option maxRecDepth 100000
set_option linter.unusedVariables false
set_option linter.unusedSimpArgs false

attribute [local irreducible] isPtF isFracF plusF detF turnX turnY mateX mateY movX movY levL gnx chn

theorem geo_assign {p q i : Int} {n k : Nat}  : ev Try.prog tbl 6 (rgA geoT) (((geoTm n k).set 58 (ii i)).set 59 (pt p q)) dead6 (fun e tm mem => match e with | .normal => tm = [wild, wild, .pointer (some ⟨0, 0, none⟩), wild, .pointer (some ⟨1, 0, none⟩), .pointer (some ⟨2, 0, none⟩), wild, wild, .slice (some ⟨3, 0, none⟩) n k, wild, wild, wild, .pointer (some ⟨4, 0, none⟩), .pointer (some ⟨5, 0, none⟩), wild, .pointer (some ⟨6, 0, none⟩), wild, wild, wild, wild, wild, wild, wild, wild, wild, wild, wild, wild, wild, wild, wild, wild, wild, wild, wild, wild, wild, wild, wild, wild, wild, wild, wild, wild, wild, wild, wild, wild, wild, wild, wild, wild, wild, wild, wild, wild, wild, wild, ii i, pt p q, wild, wild, wild, wild, wild, wild, wild, wild, wild, wild, wild, wild, wild, wild, wild, wild, wild, wild, wild, wild, wild, wild] ∧ mem = dead6 ++ [([ii p, ii q], some t_impl_Point)] | _ => False) := by
  
  conv => whnf
  all_goals (repeat' first
    | exact ⟨rfl, rfl⟩
    | (refine StoreK.mk rfl ?_; conv => whnf)
    | exact join_same
    | exact (by assumption : (_ : Bool) = (_ : Bool))
    | (refine br_true (by assumption) ?_; conv => whnf)
    | (refine br_false (by assumption) ?_; conv => whnf)
    | (refine br_not ?_; conv => whnf)
    | (refine br_code ?_; conv => whnf)
    | (with_reducible refine br_and ?_; conv => whnf)
    | (with_reducible refine br_or ?_; conv => whnf)
    | (refine br_eq2 ?_; conv => whnf)
    | (refine (c_led_ok ?_ ?_ ?_).call ?_ <;> conv => whnf)
    | (refine (c_led_ok ?_ ?_ ?_).quiet ?_ <;> conv => whnf)
    | (refine (c_led_no3 ?_ ?_ ?_).call ?_ <;> conv => whnf)
    | (refine (c_led_no3 ?_ ?_ ?_).quiet ?_ <;> conv => whnf)
    | (refine (c_led_no2 ?_ ?_).call ?_ <;> conv => whnf)
    | (refine (c_led_no2 ?_ ?_).quiet ?_ <;> conv => whnf)
    | (refine (c_led_no1 ?_).call ?_ <;> conv => whnf)
    | (refine (c_led_no1 ?_).quiet ?_ <;> conv => whnf)
    | (refine (c_impl_Point_parents ?_).call ?_ <;> conv => whnf)
    | (refine (c_impl_Point_parents ?_).quiet ?_ <;> conv => whnf)
    | (refine (c_level ?_).call ?_ <;> conv => whnf)
    | (refine (c_level ?_).quiet ?_ <;> conv => whnf)
    | (refine (c_impl_Point_mate ?_).call ?_ <;> conv => whnf)
    | (refine (c_impl_Point_mate ?_).quiet ?_ <;> conv => whnf)
    | (refine c_impl_Point_plus.call ?_; conv => whnf)
    | (refine c_impl_Point_plus.quiet ?_; conv => whnf)
    | (refine c_impl_Point_fraction.call ?_; conv => whnf)
    | (refine c_impl_Point_fraction.quiet ?_; conv => whnf)
    | (refine c_impl_Point_told.call ?_; conv => whnf)
    | (refine c_impl_Point_told.quiet ?_; conv => whnf)
    | (refine draw_auto (by decide +kernel) ?_; conv => whnf)
    | (refine draw_asg (by decide +kernel) ?_; conv => whnf)
    | (refine draw_st (by decide +kernel) ?_; conv => whnf)
    | (refine draw_call (by decide +kernel) ?_; conv => whnf)
    | (refine enter_same (loop_n 12 ?_); conv => whnf)
    | (refine next_same ?_; conv => whnf)
    | (refine mapK_row (by assumption) ?_; conv => whnf)
    | (refine mapK_plain (Plain.of rfl) ?_; conv => whnf)
    | (refine mapK_lit ?_; conv => whnf)
    | (refine br_split (fun _ => ?_) (fun _ => ?_) <;> conv => whnf)
    | exact (rfl : (_ : Value) = _)
    | (simp only [*]; exact (rfl : (_ : Value) = _))
    | (simp [*]; done))

set_option maxHeartbeats 2000000 in
theorem geo_body {a b p q : Int} {Z O : List (Int × Int)} {sz so : List Value} {n k : Nat} (hZ : Plain (pl Z ++ sz)) (hO : Row (pl O) so n k 2) (hn : n ≤ 1000001) (hB : isPtF (gbk a b (p, q)).1 (gbk a b (p, q)).2 = true) : ev Try.prog tbl 6 (rgB geoT) [wild, wild, .pointer (some ⟨0, 0, none⟩), wild, .pointer (some ⟨1, 0, none⟩), .pointer (some ⟨2, 0, none⟩), wild, wild, wild, wild, wild, wild, .pointer (some ⟨4, 0, none⟩), .pointer (some ⟨5, 0, none⟩), wild, .pointer (some ⟨7, 0, none⟩), wild, wild, wild, wild, wild, wild, wild, wild, wild, wild, wild, wild, wild, wild, wild, wild, wild, wild, wild, wild, wild, wild, wild, wild, wild, wild, wild, wild, wild, wild, wild, wild, wild, wild, wild, wild, wild, wild, wild, wild, wild, wild, wild, wild, wild, wild, wild, wild, wild, wild, wild, wild, wild, wild, wild, wild, wild, wild, wild, wild, wild, wild, wild, wild, wild, wild] (geoMem a b Z sz O so n k ++ [([ii p, ii q], some t_impl_Point)]) (fun e tm mem => match e with | .normal => NextK 6 (fun tm mem => tm = wild82 ∧ ∃ so n k, Row (pl (O ++ [gbk a b (p, q)])) so n k 2 ∧ mem = geoMem a b Z sz (O ++ [gbk a b (p, q)]) so n k) tm mem | _ => False) := by
  have hP_ : isPtF (turnX (plusF (plusF 0 p a) q (mateX a b)) (plusF (plusF 0 p b) q (mateY a b))) (turnY (plusF (plusF 0 p a) q (mateX a b)) (plusF (plusF 0 p b) q (mateY a b))) = true := hB; 
  conv => whnf
  all_goals (repeat' first
    | (refine br_true (b := decide (selF _ 0 3 = 0)) (by rw [hP_]; rfl) ?_; conv => whnf)
    | (rw [hP_]; show AppK _ _ _ 2 _ _ _ _ _; refine app_lit hO rfl rfl rfl (Plain.of rfl) rfl rfl (by decide) (by have := hn; show (_ + 1) * 16 ≤ _; omega) (by have := hn; omega) (fun hle_ spa_ ra_ => ?_) (fun hle_ ca_ spa_ ra_ => ?_) <;> conv => whnf)
    | (exact next_forget [6] ⟨rfl, _, _, _, (by rw [pl_snoc]; exact ra_), rfl⟩ (tmR_rfl rfl rfl) ⟨⟨⟨_, rfl, .plain rfl rfl (by first | exact Plain.of rfl | exact Row.all (by assumption))⟩⟩, ⟨⟨_, rfl, .plain rfl rfl (by first | exact Plain.of rfl | exact Row.all (by assumption))⟩⟩, ⟨⟨_, rfl, .plain rfl rfl (by first | exact Plain.of rfl | exact Row.all (by assumption))⟩⟩, ⟨⟨_, rfl, .plain rfl rfl hZ⟩⟩, ⟨⟨_, rfl, .plain rfl rfl (by first | exact Plain.of rfl | exact Row.all (by assumption))⟩⟩, ⟨⟨_, rfl, .lit rfl rfl (fun v hv => okB0_spec (allL_spec rfl v hv))⟩⟩, ⟨⟨_, rfl, .plain (by rw [pl_snoc] <;> rfl) rfl (by rw [pl_snoc]; exact Row.all ra_)⟩⟩, trivial⟩ rfl rfl)
    | (exact next_forget [_] ⟨rfl, _, _, _, (by rw [pl_snoc]; exact ra_), rfl⟩ (tmR_rfl rfl rfl) ⟨⟨⟨_, rfl, .plain rfl rfl (by first | exact Plain.of rfl | exact Row.all (by assumption))⟩⟩, ⟨⟨_, rfl, .plain rfl rfl (by first | exact Plain.of rfl | exact Row.all (by assumption))⟩⟩, ⟨⟨_, rfl, .plain rfl rfl (by first | exact Plain.of rfl | exact Row.all (by assumption))⟩⟩, ⟨⟨_, rfl, .plain rfl rfl hZ⟩⟩, ⟨⟨_, rfl, .plain rfl rfl (by first | exact Plain.of rfl | exact Row.all (by assumption))⟩⟩, ⟨⟨_, rfl, .lit rfl rfl (fun v hv => okB0_spec (allL_spec rfl v hv))⟩⟩, ⟨⟨_, rfl, .plain (by rw [pl_snoc] <;> rfl) rfl (by rw [pl_snoc]; exact Row.all ra_)⟩⟩, trivial⟩ rfl rfl)
    | (refine StoreK.mk rfl ?_; conv => whnf)
    | exact join_same
    | exact (by assumption : (_ : Bool) = (_ : Bool))
    | (refine br_true (by assumption) ?_; conv => whnf)
    | (refine br_false (by assumption) ?_; conv => whnf)
    | (refine br_not ?_; conv => whnf)
    | (refine br_code ?_; conv => whnf)
    | (with_reducible refine br_and ?_; conv => whnf)
    | (with_reducible refine br_or ?_; conv => whnf)
    | (refine br_eq2 ?_; conv => whnf)
    | (refine (c_led_ok ?_ ?_ ?_).call ?_ <;> conv => whnf)
    | (refine (c_led_ok ?_ ?_ ?_).quiet ?_ <;> conv => whnf)
    | (refine (c_led_no3 ?_ ?_ ?_).call ?_ <;> conv => whnf)
    | (refine (c_led_no3 ?_ ?_ ?_).quiet ?_ <;> conv => whnf)
    | (refine (c_led_no2 ?_ ?_).call ?_ <;> conv => whnf)
    | (refine (c_led_no2 ?_ ?_).quiet ?_ <;> conv => whnf)
    | (refine (c_led_no1 ?_).call ?_ <;> conv => whnf)
    | (refine (c_led_no1 ?_).quiet ?_ <;> conv => whnf)
    | (refine (c_impl_Point_parents ?_).call ?_ <;> conv => whnf)
    | (refine (c_impl_Point_parents ?_).quiet ?_ <;> conv => whnf)
    | (refine (c_level ?_).call ?_ <;> conv => whnf)
    | (refine (c_level ?_).quiet ?_ <;> conv => whnf)
    | (refine (c_impl_Point_mate ?_).call ?_ <;> conv => whnf)
    | (refine (c_impl_Point_mate ?_).quiet ?_ <;> conv => whnf)
    | (refine c_impl_Point_plus.call ?_; conv => whnf)
    | (refine c_impl_Point_plus.quiet ?_; conv => whnf)
    | (refine c_impl_Point_fraction.call ?_; conv => whnf)
    | (refine c_impl_Point_fraction.quiet ?_; conv => whnf)
    | (refine c_impl_Point_told.call ?_; conv => whnf)
    | (refine c_impl_Point_told.quiet ?_; conv => whnf)
    | (refine draw_auto (by decide +kernel) ?_; conv => whnf)
    | (refine draw_asg (by decide +kernel) ?_; conv => whnf)
    | (refine draw_st (by decide +kernel) ?_; conv => whnf)
    | (refine draw_call (by decide +kernel) ?_; conv => whnf)
    | (refine enter_same (loop_n 12 ?_); conv => whnf)
    | (refine next_same ?_; conv => whnf)
    | (refine mapK_row (by assumption) ?_; conv => whnf)
    | (refine mapK_plain (Plain.of rfl) ?_; conv => whnf)
    | (refine mapK_lit ?_; conv => whnf)
    | (refine br_split (fun _ => ?_) (fun _ => ?_) <;> conv => whnf)
    | exact (rfl : (_ : Value) = _)
    | (simp only [*]; exact (rfl : (_ : Value) = _))
    | (simp [*]; done))

set_option maxHeartbeats 2000000 in
theorem geo_body_no {a b p q : Int} {Z O : List (Int × Int)} {sz so : List Value} {n k : Nat} (hB : isPtF (gbk a b (p, q)).1 (gbk a b (p, q)).2 = false) : ev Try.prog tbl 6 (rgB geoT) [wild, wild, .pointer (some ⟨0, 0, none⟩), wild, .pointer (some ⟨1, 0, none⟩), .pointer (some ⟨2, 0, none⟩), wild, wild, wild, wild, wild, wild, .pointer (some ⟨4, 0, none⟩), .pointer (some ⟨5, 0, none⟩), wild, .pointer (some ⟨7, 0, none⟩), wild, wild, wild, wild, wild, wild, wild, wild, wild, wild, wild, wild, wild, wild, wild, wild, wild, wild, wild, wild, wild, wild, wild, wild, wild, wild, wild, wild, wild, wild, wild, wild, wild, wild, wild, wild, wild, wild, wild, wild, wild, wild, wild, wild, wild, wild, wild, wild, wild, wild, wild, wild, wild, wild, wild, wild, wild, wild, wild, wild, wild, wild, wild, wild, wild, wild] (geoMem a b Z sz O so n k ++ [([ii p, ii q], some t_impl_Point)]) (fun e tm mem => match e with | .ret => True | _ => False) := by
  have hP_ : isPtF (turnX (plusF (plusF 0 p a) q (mateX a b)) (plusF (plusF 0 p b) q (mateY a b))) (turnY (plusF (plusF 0 p a) q (mateX a b)) (plusF (plusF 0 p b) q (mateY a b))) = false := hB; 
  conv => whnf
  all_goals (repeat' first
    | (refine br_false (b := decide (selF _ 0 3 = 0)) (by rw [hP_]; rfl) ?_; conv => whnf)
    | exact trivial
    | (refine StoreK.mk rfl ?_; conv => whnf)
    | exact join_same
    | exact (by assumption : (_ : Bool) = (_ : Bool))
    | (refine br_true (by assumption) ?_; conv => whnf)
    | (refine br_false (by assumption) ?_; conv => whnf)
    | (refine br_not ?_; conv => whnf)
    | (refine br_code ?_; conv => whnf)
    | (with_reducible refine br_and ?_; conv => whnf)
    | (with_reducible refine br_or ?_; conv => whnf)
    | (refine br_eq2 ?_; conv => whnf)
    | (refine (c_led_ok ?_ ?_ ?_).call ?_ <;> conv => whnf)
    | (refine (c_led_ok ?_ ?_ ?_).quiet ?_ <;> conv => whnf)
    | (refine (c_led_no3 ?_ ?_ ?_).call ?_ <;> conv => whnf)
    | (refine (c_led_no3 ?_ ?_ ?_).quiet ?_ <;> conv => whnf)
    | (refine (c_led_no2 ?_ ?_).call ?_ <;> conv => whnf)
    | (refine (c_led_no2 ?_ ?_).quiet ?_ <;> conv => whnf)
    | (refine (c_led_no1 ?_).call ?_ <;> conv => whnf)
    | (refine (c_led_no1 ?_).quiet ?_ <;> conv => whnf)
    | (refine (c_impl_Point_parents ?_).call ?_ <;> conv => whnf)
    | (refine (c_impl_Point_parents ?_).quiet ?_ <;> conv => whnf)
    | (refine (c_level ?_).call ?_ <;> conv => whnf)
    | (refine (c_level ?_).quiet ?_ <;> conv => whnf)
    | (refine (c_impl_Point_mate ?_).call ?_ <;> conv => whnf)
    | (refine (c_impl_Point_mate ?_).quiet ?_ <;> conv => whnf)
    | (refine c_impl_Point_plus.call ?_; conv => whnf)
    | (refine c_impl_Point_plus.quiet ?_; conv => whnf)
    | (refine c_impl_Point_fraction.call ?_; conv => whnf)
    | (refine c_impl_Point_fraction.quiet ?_; conv => whnf)
    | (refine c_impl_Point_told.call ?_; conv => whnf)
    | (refine c_impl_Point_told.quiet ?_; conv => whnf)
    | (refine draw_auto (by decide +kernel) ?_; conv => whnf)
    | (refine draw_asg (by decide +kernel) ?_; conv => whnf)
    | (refine draw_st (by decide +kernel) ?_; conv => whnf)
    | (refine draw_call (by decide +kernel) ?_; conv => whnf)
    | (refine enter_same (loop_n 12 ?_); conv => whnf)
    | (refine next_same ?_; conv => whnf)
    | (refine mapK_row (by assumption) ?_; conv => whnf)
    | (refine mapK_plain (Plain.of rfl) ?_; conv => whnf)
    | (refine mapK_lit ?_; conv => whnf)
    | (refine br_split (fun _ => ?_) (fun _ => ?_) <;> conv => whnf)
    | exact (rfl : (_ : Value) = _)
    | (simp only [*]; exact (rfl : (_ : Value) = _))
    | (simp [*]; done))

end Go.Proofs.Ytnjepaboecijcaa
