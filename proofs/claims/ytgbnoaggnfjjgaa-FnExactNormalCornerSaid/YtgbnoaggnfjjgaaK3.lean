/-
  Contracts of functions of the program (printed by a program of this work; Lean checks each).
  Conditions: as each contract states.
-/
import Derived.Test.YtgbnoaggnfjjgaaK1
import Derived.Test.YtgbnoaggnfjjgaaMate
namespace Go.Proofs.Ytgbnoaggnfjjgaa
open Go.Ev Go.RowKit
set_option maxRecDepth 100000
set_option linter.unusedVariables false
set_option linter.unusedSimpArgs false

theorem c_impl_floor {a b : Int} (hb : decide (b = 0) = false) : Pure Try.prog n_impl_floor [ii a, ii b] (ii (floorF a b)) := by
  refine pure_of good fn_impl_floor rfl rfl ?_
  conv => whnf
  all_goals (repeat' first
    | exact (by assumption : (_ : Bool) = (_ : Bool))
    | (refine br_true (by assumption) ?_; conv => whnf)
    | (refine br_false (by assumption) ?_; conv => whnf)
    | (refine br_not ?_; conv => whnf)
    | (refine br_code ?_; conv => whnf)
    | (with_reducible refine br_and ?_; conv => whnf)
    | (with_reducible refine br_or ?_; conv => whnf)
    | (refine br_eq2 ?_; conv => whnf)
    | (refine draw_auto (by decide +kernel) ?_; conv => whnf)
    | (refine draw_asg (by decide +kernel) ?_; conv => whnf)
    | (refine draw_st (by decide +kernel) ?_; conv => whnf)
    | (refine loop_n 12 ?_; conv => whnf)
    | (refine br_split (fun _ => ?_) (fun _ => ?_) <;> conv => whnf)
    | exact (rfl : (_ : Value) = _)
    | (simp only [*]; exact (rfl : (_ : Value) = _))
    | (simp [floorF, selF, *]; done))

theorem c_impl_mod {a b : Int} (hb : decide (b = 0) = false) : Pure Try.prog n_impl_mod [ii a, ii b] (ii (modF a b)) := by
  refine pure_of good fn_impl_mod rfl rfl ?_
  conv => whnf
  all_goals (repeat' first
    | exact (by assumption : (_ : Bool) = (_ : Bool))
    | (refine br_true (by assumption) ?_; conv => whnf)
    | (refine br_false (by assumption) ?_; conv => whnf)
    | (refine br_not ?_; conv => whnf)
    | (refine br_code ?_; conv => whnf)
    | (with_reducible refine br_and ?_; conv => whnf)
    | (with_reducible refine br_or ?_; conv => whnf)
    | (refine br_eq2 ?_; conv => whnf)
    | (refine (c_impl_floor ?_).call ?_ <;> conv => whnf)
    | (refine (c_impl_floor ?_).quiet ?_ <;> conv => whnf)
    | (refine draw_auto (by decide +kernel) ?_; conv => whnf)
    | (refine draw_asg (by decide +kernel) ?_; conv => whnf)
    | (refine draw_st (by decide +kernel) ?_; conv => whnf)
    | (refine loop_n 12 ?_; conv => whnf)
    | (refine br_split (fun _ => ?_) (fun _ => ?_) <;> conv => whnf)
    | exact (rfl : (_ : Value) = _)
    | (simp only [*]; exact (rfl : (_ : Value) = _))
    | (simp [*]; done))

theorem c_spec_l01Rest {n x : Int} (hb : decide (n = 0) = false) : Pure Try.prog n_spec_l01Rest [ii n, ii x] (ii (restF n x)) := by
  refine pure_of good fn_spec_l01Rest rfl rfl ?_
  conv => whnf
  all_goals (repeat' first
    | exact (by assumption : (_ : Bool) = (_ : Bool))
    | (refine br_true (by assumption) ?_; conv => whnf)
    | (refine br_false (by assumption) ?_; conv => whnf)
    | (refine br_not ?_; conv => whnf)
    | (refine br_code ?_; conv => whnf)
    | (with_reducible refine br_and ?_; conv => whnf)
    | (with_reducible refine br_or ?_; conv => whnf)
    | (refine br_eq2 ?_; conv => whnf)
    | (refine draw_auto (by decide +kernel) ?_; conv => whnf)
    | (refine draw_asg (by decide +kernel) ?_; conv => whnf)
    | (refine draw_st (by decide +kernel) ?_; conv => whnf)
    | (refine loop_n 12 ?_; conv => whnf)
    | (refine br_split (fun _ => ?_) (fun _ => ?_) <;> conv => whnf)
    | exact (rfl : (_ : Value) = _)
    | (simp only [*]; exact (rfl : (_ : Value) = _))
    | (simp [*]; done))

theorem c_impl_bezout {a m : Int} (h : BezOk a m) : Pure Try.prog n_impl_bezout [ii a, ii m] (ii (bezF a m % m)) := by
  refine pure_of good fn_impl_bezout rfl rfl ?_
  conv => whnf
  all_goals (repeat' first
    | (refine loop_rec (fun (s : Int × Int × Int × Int × Value × Value × Value × Value × Value × Value × Value × Value × Value × Value × Value × Value × Value × Value × Value × Value × Value × Value × Value × Value × Value × Value) => match s with | (r, s, x, y, u9, u10, u11, u12, u13, u14, u15, u16, u17, u18, u19, u20, u21, u22, u23, u24, u25, u26, u27, u28, u29, u30) => [ii a, ii m, undef, undef, ii 0, ii r, ii s, ii x, ii y, u9, u10, u11, u12, u13, u14, u15, u16, u17, u18, u19, u20, u21, u22, u23, u24, u25, u26, u27, u28, u29, u30, undef, undef, undef]) (fun (s : Int × Int × Int × Int × Value × Value × Value × Value × Value × Value × Value × Value × Value × Value × Value × Value × Value × Value × Value × Value × Value × Value × Value × Value × Value × Value) => match s with | (r, s, x, y, u9, u10, u11, u12, u13, u14, u15, u16, u17, u18, u19, u20, u21, u22, u23, u24, u25, u26, u27, u28, u29, u30) => []) (fun (s : Int × Int × Int × Int × Value × Value × Value × Value × Value × Value × Value × Value × Value × Value × Value × Value × Value × Value × Value × Value × Value × Value × Value × Value × Value × Value) => match s with | (r, s, x, y, u9, u10, u11, u12, u13, u14, u15, u16, u17, u18, u19, u20, u21, u22, u23, u24, u25, u26, u27, u28, u29, u30) => s.natAbs) (fun (s : Int × Int × Int × Int × Value × Value × Value × Value × Value × Value × Value × Value × Value × Value × Value × Value × Value × Value × Value × Value × Value × Value × Value × Value × Value × Value) => match s with | (r, s, x, y, u9, u10, u11, u12, u13, u14, u15, u16, u17, u18, u19, u20, u21, u22, u23, u24, u25, u26, u27, u28, u29, u30) => BInv m r s x y ∧ bezL r s x y = bezF a m) (modF a m, m, 1, 0, _, _, _, _, _, _, _, _, _, _, _, _, _, _, _, _, _, _, _, _, _, _) h.start' ?_; rintro n ⟨r, s, x, y, u9, u10, u11, u12, u13, u14, u15, u16, u17, u18, u19, u20, u21, u22, u23, u24, u25, u26, u27, u28, u29, u30⟩ hI IH; replace hI : BInv m r s x y ∧ bezL r s x y = bezF a m := hI; conv => whnf)
    | exact IH (s, w64 (r - w64 (w64 (r.tdiv s) * s)), y, w64 (x - w64 (w64 (r.tdiv s) * y)), _, _, _, _, _, _, _, _, _, _, _, _, _, _, _, _, _, _, _, _, _, _) (bez_next hI (ne_of_dec (by assumption))) (bez_lt hI (ne_of_dec (by assumption)))
    | exact decide_eq_false (by have := h.pos; omega)
    | exact (by assumption : (_ : Bool) = (_ : Bool))
    | (refine br_true (by assumption) ?_; conv => whnf)
    | (refine br_false (by assumption) ?_; conv => whnf)
    | (refine br_not ?_; conv => whnf)
    | (refine br_code ?_; conv => whnf)
    | (with_reducible refine br_and ?_; conv => whnf)
    | (with_reducible refine br_or ?_; conv => whnf)
    | (refine br_eq2 ?_; conv => whnf)
    | (refine (c_impl_mod ?_).call ?_ <;> conv => whnf)
    | (refine (c_impl_mod ?_).quiet ?_ <;> conv => whnf)
    | (refine draw_auto (by decide +kernel) ?_; conv => whnf)
    | (refine draw_asg (by decide +kernel) ?_; conv => whnf)
    | (refine draw_st (by decide +kernel) ?_; conv => whnf)
    | (refine loop_n 12 ?_; conv => whnf)
    | (refine br_split (fun _ => ?_) (fun _ => ?_) <;> conv => whnf)
    | exact (rfl : (_ : Value) = _)
    | exact congrArg (Value.int IntKind.i64) (bez_mod h hI (by assumption))
    | (simp only [*]; exact (rfl : (_ : Value) = _))
    | (simp [*]; done))

theorem c_impl_Point_mate {a b : Int} (h : isPtF a b = true) : Pure Try.prog n_impl_Point_mate [pt a b] (pt (mateX a b) (mateY a b)) := by
  refine pure_of good fn_impl_Point_mate rfl rfl ?_
  conv => whnf
  all_goals (repeat' first
    | exact mate_nz h (by assumption)
    | exact mate_bez h (by assumption)
    | exact mate_fin h (by assumption)
    | exact mate_fin0 h (by assumption)
    | exact (by assumption : (_ : Bool) = (_ : Bool))
    | (refine br_true (by assumption) ?_; conv => whnf)
    | (refine br_false (by assumption) ?_; conv => whnf)
    | (refine br_not ?_; conv => whnf)
    | (refine br_code ?_; conv => whnf)
    | (with_reducible refine br_and ?_; conv => whnf)
    | (with_reducible refine br_or ?_; conv => whnf)
    | (refine br_eq2 ?_; conv => whnf)
    | (refine c_impl_size.call ?_; conv => whnf)
    | (refine c_impl_size.quiet ?_; conv => whnf)
    | (refine (c_impl_bezout ?_).call ?_ <;> conv => whnf)
    | (refine (c_impl_bezout ?_).quiet ?_ <;> conv => whnf)
    | (refine (c_impl_mod ?_).call ?_ <;> conv => whnf)
    | (refine (c_impl_mod ?_).quiet ?_ <;> conv => whnf)
    | (refine draw_auto (by decide +kernel) ?_; conv => whnf)
    | (refine draw_asg (by decide +kernel) ?_; conv => whnf)
    | (refine draw_st (by decide +kernel) ?_; conv => whnf)
    | (refine loop_n 12 ?_; conv => whnf)
    | (refine br_split (fun _ => ?_) (fun _ => ?_) <;> conv => whnf)
    | exact (rfl : (_ : Value) = _)
    | (simp only [*]; exact (rfl : (_ : Value) = _))
    | (simp [*]; done))

theorem c_spec_l01Base {a b : Int} (h : isPtF a b = true) : Pure Try.prog n_spec_l01Base [pt a b] (pt (mateX a b) (mateY a b)) := by
  refine pure_of good fn_spec_l01Base rfl rfl ?_
  conv => whnf
  all_goals (repeat' first
    | (refine loop_rec0 (fun (s : Int × Int × Int × Int × Value × Value × Value × Value × Value × Value × Value × Value × Value × Value × Value × Value × Value × Value × Value × Value × Value × Value × Value × Value × Value × Value × Value × Value × Value × Value × Value × Value × Value × Value × Value × Value × Value × Value × Value × Value) => match s with | (r, s, x, y, u8, u9, u10, u11, u12, u13, u14, u15, u16, u17, u18, u19, u20, u21, u22, u23, u24, u25, u26, u27, u28, u29, u30, u31, u32, u33, u34, u35, u36, u37, u38, u39, u40, u41, u42, u43) => [pt a b, .pointer (some ⟨0, 0, none⟩), .pointer (some ⟨1, 0, none⟩), ii (sizeF a), ii x, ii y, ii r, ii s, u8, u9, u10, u11, u12, u13, u14, u15, u16, u17, u18, u19, u20, u21, u22, u23, u24, u25, u26, u27, u28, u29, u30, u31, u32, u33, u34, u35, u36, u37, u38, u39, u40, u41, u42, u43, undef, undef, undef, undef, undef, undef, undef, undef, undef, undef, undef, undef, undef, undef]) (fun (s : Int × Int × Int × Int × Value × Value × Value × Value × Value × Value × Value × Value × Value × Value × Value × Value × Value × Value × Value × Value × Value × Value × Value × Value × Value × Value × Value × Value × Value × Value × Value × Value × Value × Value × Value × Value × Value × Value × Value × Value) => match s with | (r, s, x, y, u8, u9, u10, u11, u12, u13, u14, u15, u16, u17, u18, u19, u20, u21, u22, u23, u24, u25, u26, u27, u28, u29, u30, u31, u32, u33, u34, u35, u36, u37, u38, u39, u40, u41, u42, u43) => s.natAbs) (fun (s : Int × Int × Int × Int × Value × Value × Value × Value × Value × Value × Value × Value × Value × Value × Value × Value × Value × Value × Value × Value × Value × Value × Value × Value × Value × Value × Value × Value × Value × Value × Value × Value × Value × Value × Value × Value × Value × Value × Value × Value) => match s with | (r, s, x, y, u8, u9, u10, u11, u12, u13, u14, u15, u16, u17, u18, u19, u20, u21, u22, u23, u24, u25, u26, u27, u28, u29, u30, u31, u32, u33, u34, u35, u36, u37, u38, u39, u40, u41, u42, u43) => BInv (sizeF a) r s x y ∧ bezL r s x y = bezF b (sizeF a)) (restF (sizeF a) b, sizeF a, 1, 0, _, _, _, _, _, _, _, _, _, _, _, _, _, _, _, _, _, _, _, _, _, _, _, _, _, _, _, _, _, _, _, _, _, _, _, _) (mate_start h (by assumption)) ?_; rintro n ⟨r, s, x, y, u8, u9, u10, u11, u12, u13, u14, u15, u16, u17, u18, u19, u20, u21, u22, u23, u24, u25, u26, u27, u28, u29, u30, u31, u32, u33, u34, u35, u36, u37, u38, u39, u40, u41, u42, u43⟩ hI IH; replace hI : BInv (sizeF a) r s x y ∧ bezL r s x y = bezF b (sizeF a) := hI; conv => whnf)
    | exact IH (s, w64 (r - w64 (w64 (r.tdiv s) * s)), y, w64 (x - w64 (w64 (r.tdiv s) * y)), _, _, _, _, _, _, _, _, _, _, _, _, _, _, _, _, _, _, _, _, _, _, _, _, _, _, _, _, _, _, _, _, _, _, _, _) (bez_next hI (ne_of_dec (by assumption))) (bez_lt hI (ne_of_dec (by assumption)))
    | exact mate_nz h (by assumption)
    | exact mate_fin' h (by assumption) hI (by assumption)
    | exact mate_fin0 h (by assumption)
    | exact (by assumption : (_ : Bool) = (_ : Bool))
    | (refine br_true (by assumption) ?_; conv => whnf)
    | (refine br_false (by assumption) ?_; conv => whnf)
    | (refine br_not ?_; conv => whnf)
    | (refine br_code ?_; conv => whnf)
    | (with_reducible refine br_and ?_; conv => whnf)
    | (with_reducible refine br_or ?_; conv => whnf)
    | (refine br_eq2 ?_; conv => whnf)
    | (refine (c_spec_l01Rest ?_).call ?_ <;> conv => whnf)
    | (refine (c_spec_l01Rest ?_).quiet ?_ <;> conv => whnf)
    | (refine draw_auto (by decide +kernel) ?_; conv => whnf)
    | (refine draw_asg (by decide +kernel) ?_; conv => whnf)
    | (refine draw_st (by decide +kernel) ?_; conv => whnf)
    | (refine loop_n 12 ?_; conv => whnf)
    | (refine br_split (fun _ => ?_) (fun _ => ?_) <;> conv => whnf)
    | exact (rfl : (_ : Value) = _)
    | (simp only [*]; exact (rfl : (_ : Value) = _))
    | (simp [*]; done))

theorem c_impl_Point_told {a b : Int}  : Pure Try.prog n_impl_Point_told [pt a b] (t2 (pt (selF (isPtF (a) (b)) (a) 0) (selF (isPtF (a) (b)) (b) 0)) (ii (selF (isPtF (a) (b)) 0 3))) := by
  refine pure_of good fn_impl_Point_told rfl rfl ?_
  conv => whnf
  all_goals (repeat' first
    | exact (by assumption : (_ : Bool) = (_ : Bool))
    | (refine br_true (by assumption) ?_; conv => whnf)
    | (refine br_false (by assumption) ?_; conv => whnf)
    | (refine br_not ?_; conv => whnf)
    | (refine br_code ?_; conv => whnf)
    | (with_reducible refine br_and ?_; conv => whnf)
    | (with_reducible refine br_or ?_; conv => whnf)
    | (refine br_eq2 ?_; conv => whnf)
    | (refine c_impl_IsPoint.call ?_; conv => whnf)
    | (refine c_impl_IsPoint.quiet ?_; conv => whnf)
    | (refine draw_auto (by decide +kernel) ?_; conv => whnf)
    | (refine draw_asg (by decide +kernel) ?_; conv => whnf)
    | (refine draw_st (by decide +kernel) ?_; conv => whnf)
    | (refine loop_n 12 ?_; conv => whnf)
    | (refine br_split (fun _ => ?_) (fun _ => ?_) <;> conv => whnf)
    | exact (rfl : (_ : Value) = _)
    | (simp only [*]; exact (rfl : (_ : Value) = _))
    | (simp [selF, *]; done))

theorem c_spec_l01Told {a b : Int}  : Pure Try.prog n_spec_l01Told [pt a b] (t2 (pt (selF (isPtF (a) (b)) (a) 0) (selF (isPtF (a) (b)) (b) 0)) (ii (selF (isPtF (a) (b)) 0 3))) := by
  refine pure_of good fn_spec_l01Told rfl rfl ?_
  conv => whnf
  all_goals (repeat' first
    | exact (by assumption : (_ : Bool) = (_ : Bool))
    | (refine br_true (by assumption) ?_; conv => whnf)
    | (refine br_false (by assumption) ?_; conv => whnf)
    | (refine br_not ?_; conv => whnf)
    | (refine br_code ?_; conv => whnf)
    | (with_reducible refine br_and ?_; conv => whnf)
    | (with_reducible refine br_or ?_; conv => whnf)
    | (refine br_eq2 ?_; conv => whnf)
    | (refine c_spec_l01Is.call ?_; conv => whnf)
    | (refine c_spec_l01Is.quiet ?_; conv => whnf)
    | (refine draw_auto (by decide +kernel) ?_; conv => whnf)
    | (refine draw_asg (by decide +kernel) ?_; conv => whnf)
    | (refine draw_st (by decide +kernel) ?_; conv => whnf)
    | (refine loop_n 12 ?_; conv => whnf)
    | (refine br_split (fun _ => ?_) (fun _ => ?_) <;> conv => whnf)
    | exact (rfl : (_ : Value) = _)
    | (simp only [*]; exact (rfl : (_ : Value) = _))
    | (simp [selF, *]; done))

theorem c_impl_IsCorner {a b c d : Int}  : Pure Try.prog n_impl_IsCorner [q4 a b c d] (bb (isCornF a b c d)) := by
  refine pure_of good fn_impl_IsCorner rfl rfl ?_
  conv => whnf
  all_goals (repeat' first
    | exact (by assumption : (_ : Bool) = (_ : Bool))
    | (refine br_true (by assumption) ?_; conv => whnf)
    | (refine br_false (by assumption) ?_; conv => whnf)
    | (refine br_not ?_; conv => whnf)
    | (refine br_code ?_; conv => whnf)
    | (with_reducible refine br_and ?_; conv => whnf)
    | (with_reducible refine br_or ?_; conv => whnf)
    | (refine br_eq2 ?_; conv => whnf)
    | (refine c_points_2.call1 rfl rfl ⟨_, rfl⟩ ?_; conv => whnf)
    | (refine c_points_2.quiet1 rfl rfl ⟨_, rfl⟩ ?_; conv => whnf)
    | (refine c_points_3.call1 rfl rfl ⟨_, rfl⟩ ?_; conv => whnf)
    | (refine c_points_3.quiet1 rfl rfl ⟨_, rfl⟩ ?_; conv => whnf)
    | (refine c_impl_Point_isPrimitive.call ?_; conv => whnf)
    | (refine c_impl_Point_isPrimitive.quiet ?_; conv => whnf)
    | (refine c_impl_det.call ?_; conv => whnf)
    | (refine c_impl_det.quiet ?_; conv => whnf)
    | (refine draw_auto (by decide +kernel) ?_; conv => whnf)
    | (refine draw_asg (by decide +kernel) ?_; conv => whnf)
    | (refine draw_st (by decide +kernel) ?_; conv => whnf)
    | (refine loop_n 12 ?_; conv => whnf)
    | (refine br_split (fun _ => ?_) (fun _ => ?_) <;> conv => whnf)
    | exact (rfl : (_ : Value) = _)
    | (simp only [*]; exact (rfl : (_ : Value) = _))
    | (simp [isCornF, *]; done))

theorem c_spec_l02Is {a b c d : Int}  : Pure Try.prog n_spec_l02Is [q4 a b c d] (bb (isCornF a b c d)) := by
  refine pure_of good fn_spec_l02Is rfl rfl ?_
  conv => whnf
  all_goals (repeat' first
    | exact (by assumption : (_ : Bool) = (_ : Bool))
    | (refine br_true (by assumption) ?_; conv => whnf)
    | (refine br_false (by assumption) ?_; conv => whnf)
    | (refine br_not ?_; conv => whnf)
    | (refine br_code ?_; conv => whnf)
    | (with_reducible refine br_and ?_; conv => whnf)
    | (with_reducible refine br_or ?_; conv => whnf)
    | (refine br_eq2 ?_; conv => whnf)
    | (refine c_spec_l01Is.call ?_; conv => whnf)
    | (refine c_spec_l01Is.quiet ?_; conv => whnf)
    | (refine c_spec_l01Det.call ?_; conv => whnf)
    | (refine c_spec_l01Det.quiet ?_; conv => whnf)
    | (refine c_spec_l01Gcd.call ?_; conv => whnf)
    | (refine c_spec_l01Gcd.quiet ?_; conv => whnf)
    | (refine draw_auto (by decide +kernel) ?_; conv => whnf)
    | (refine draw_asg (by decide +kernel) ?_; conv => whnf)
    | (refine draw_st (by decide +kernel) ?_; conv => whnf)
    | (refine loop_n 12 ?_; conv => whnf)
    | (refine br_split (fun _ => ?_) (fun _ => ?_) <;> conv => whnf)
    | exact (rfl : (_ : Value) = _)
    | (simp only [*]; exact (rfl : (_ : Value) = _))
    | (simp [isCornF, primF, *]; done))

theorem c_spec_IsCorner {a b c d : Int}  : Pure Try.prog n_spec_IsCorner [q4 a b c d] (bb (isCornF a b c d)) := by
  refine pure_of good fn_spec_IsCorner rfl rfl ?_
  conv => whnf
  all_goals (repeat' first
    | exact (by assumption : (_ : Bool) = (_ : Bool))
    | (refine br_true (by assumption) ?_; conv => whnf)
    | (refine br_false (by assumption) ?_; conv => whnf)
    | (refine br_not ?_; conv => whnf)
    | (refine br_code ?_; conv => whnf)
    | (with_reducible refine br_and ?_; conv => whnf)
    | (with_reducible refine br_or ?_; conv => whnf)
    | (refine br_eq2 ?_; conv => whnf)
    | (refine c_spec_l02Is.call ?_; conv => whnf)
    | (refine c_spec_l02Is.quiet ?_; conv => whnf)
    | (refine draw_auto (by decide +kernel) ?_; conv => whnf)
    | (refine draw_asg (by decide +kernel) ?_; conv => whnf)
    | (refine draw_st (by decide +kernel) ?_; conv => whnf)
    | (refine loop_n 12 ?_; conv => whnf)
    | (refine br_split (fun _ => ?_) (fun _ => ?_) <;> conv => whnf)
    | exact (rfl : (_ : Value) = _)
    | (simp only [*]; exact (rfl : (_ : Value) = _))
    | (simp [*]; done))

theorem c_impl_Corner_sine {a b c d : Int}  : Pure Try.prog n_impl_Corner_sine [q4 a b c d] (ii (sineF a b c d)) := by
  refine pure_of good fn_impl_Corner_sine rfl rfl ?_
  conv => whnf
  all_goals (repeat' first
    | exact (by assumption : (_ : Bool) = (_ : Bool))
    | (refine br_true (by assumption) ?_; conv => whnf)
    | (refine br_false (by assumption) ?_; conv => whnf)
    | (refine br_not ?_; conv => whnf)
    | (refine br_code ?_; conv => whnf)
    | (with_reducible refine br_and ?_; conv => whnf)
    | (with_reducible refine br_or ?_; conv => whnf)
    | (refine br_eq2 ?_; conv => whnf)
    | (refine c_impl_det.call ?_; conv => whnf)
    | (refine c_impl_det.quiet ?_; conv => whnf)
    | (refine c_impl_size.call ?_; conv => whnf)
    | (refine c_impl_size.quiet ?_; conv => whnf)
    | (refine draw_auto (by decide +kernel) ?_; conv => whnf)
    | (refine draw_asg (by decide +kernel) ?_; conv => whnf)
    | (refine draw_st (by decide +kernel) ?_; conv => whnf)
    | (refine loop_n 12 ?_; conv => whnf)
    | (refine br_split (fun _ => ?_) (fun _ => ?_) <;> conv => whnf)
    | exact (rfl : (_ : Value) = _)
    | (simp only [*]; exact (rfl : (_ : Value) = _))
    | (simp [*]; done))

theorem c_spec_l02Sine {a b c d : Int}  : Pure Try.prog n_spec_l02Sine [q4 a b c d] (ii (sineF a b c d)) := by
  refine pure_of good fn_spec_l02Sine rfl rfl ?_
  conv => whnf
  all_goals (repeat' first
    | exact (by assumption : (_ : Bool) = (_ : Bool))
    | (refine br_true (by assumption) ?_; conv => whnf)
    | (refine br_false (by assumption) ?_; conv => whnf)
    | (refine br_not ?_; conv => whnf)
    | (refine br_code ?_; conv => whnf)
    | (with_reducible refine br_and ?_; conv => whnf)
    | (with_reducible refine br_or ?_; conv => whnf)
    | (refine br_eq2 ?_; conv => whnf)
    | (refine c_spec_l01Det.call ?_; conv => whnf)
    | (refine c_spec_l01Det.quiet ?_; conv => whnf)
    | (refine draw_auto (by decide +kernel) ?_; conv => whnf)
    | (refine draw_asg (by decide +kernel) ?_; conv => whnf)
    | (refine draw_st (by decide +kernel) ?_; conv => whnf)
    | (refine loop_n 12 ?_; conv => whnf)
    | (refine br_split (fun _ => ?_) (fun _ => ?_) <;> conv => whnf)
    | exact (rfl : (_ : Value) = _)
    | (simp only [*]; exact (rfl : (_ : Value) = _))
    | (simp [*]; done))

theorem c_impl_limited_1 {a b c d : Int}  : Pure Try.prog n_impl_limited_1 [q4 a b c d] (bb (!isCornF a b c d)) := by
  refine pure_of good fn_impl_limited_1 rfl rfl ?_
  conv => whnf
  all_goals (repeat' first
    | exact (by assumption : (_ : Bool) = (_ : Bool))
    | (refine br_true (by assumption) ?_; conv => whnf)
    | (refine br_false (by assumption) ?_; conv => whnf)
    | (refine br_not ?_; conv => whnf)
    | (refine br_code ?_; conv => whnf)
    | (with_reducible refine br_and ?_; conv => whnf)
    | (with_reducible refine br_or ?_; conv => whnf)
    | (refine br_eq2 ?_; conv => whnf)
    | (refine c_impl_IsCorner.call ?_; conv => whnf)
    | (refine c_impl_IsCorner.quiet ?_; conv => whnf)
    | (refine draw_auto (by decide +kernel) ?_; conv => whnf)
    | (refine draw_asg (by decide +kernel) ?_; conv => whnf)
    | (refine draw_st (by decide +kernel) ?_; conv => whnf)
    | (refine loop_n 12 ?_; conv => whnf)
    | (refine br_split (fun _ => ?_) (fun _ => ?_) <;> conv => whnf)
    | exact (rfl : (_ : Value) = _)
    | (simp only [*]; exact (rfl : (_ : Value) = _))
    | (simp [*]; done))

theorem c_impl_limited_2 {a b c d : Int}  : Pure Try.prog n_impl_limited_2 [q4 a b c d] (bb (bigF a b c d)) := by
  refine pure_of good fn_impl_limited_2 rfl rfl ?_
  conv => whnf
  all_goals (repeat' first
    | exact (by assumption : (_ : Bool) = (_ : Bool))
    | (refine br_true (by assumption) ?_; conv => whnf)
    | (refine br_false (by assumption) ?_; conv => whnf)
    | (refine br_not ?_; conv => whnf)
    | (refine br_code ?_; conv => whnf)
    | (with_reducible refine br_and ?_; conv => whnf)
    | (with_reducible refine br_or ?_; conv => whnf)
    | (refine br_eq2 ?_; conv => whnf)
    | (refine c_impl_Corner_sine.call ?_; conv => whnf)
    | (refine c_impl_Corner_sine.quiet ?_; conv => whnf)
    | (refine draw_auto (by decide +kernel) ?_; conv => whnf)
    | (refine draw_asg (by decide +kernel) ?_; conv => whnf)
    | (refine draw_st (by decide +kernel) ?_; conv => whnf)
    | (refine loop_n 12 ?_; conv => whnf)
    | (refine br_split (fun _ => ?_) (fun _ => ?_) <;> conv => whnf)
    | exact (rfl : (_ : Value) = _)
    | (simp only [*]; exact (rfl : (_ : Value) = _))
    | (simp [*]; done))

theorem c_index_lim1_1 {a b c d : Int}  : CallR Try.prog n_slices_IndexFunc_Corner [.slice (some ⟨0, 0, none⟩) 1 1, fnv n_impl_limited_1] [[ii a, ii b, ii c, ii d]] (ii (idx1F (isCornF a b c d))) := by
  refine callR_of good fn_slices_IndexFunc_Corner rfl rfl ?_
  conv => whnf
  all_goals (repeat' first
    | exact (by assumption : (_ : Bool) = (_ : Bool))
    | (refine br_true (by assumption) ?_; conv => whnf)
    | (refine br_false (by assumption) ?_; conv => whnf)
    | (refine br_not ?_; conv => whnf)
    | (refine br_code ?_; conv => whnf)
    | (with_reducible refine br_and ?_; conv => whnf)
    | (with_reducible refine br_or ?_; conv => whnf)
    | (refine br_eq2 ?_; conv => whnf)
    | (refine c_impl_limited_1.call ?_; conv => whnf)
    | (refine c_impl_limited_1.quiet ?_; conv => whnf)
    | (refine draw_auto (by decide +kernel) ?_; conv => whnf)
    | (refine draw_asg (by decide +kernel) ?_; conv => whnf)
    | (refine draw_st (by decide +kernel) ?_; conv => whnf)
    | (refine loop_n 12 ?_; conv => whnf)
    | (refine br_split (fun _ => ?_) (fun _ => ?_) <;> conv => whnf)
    | exact (rfl : (_ : Value) = _)
    | (simp only [*]; exact (rfl : (_ : Value) = _))
    | (simp [idx1F, *]; done))

theorem c_index_lim2_1 {a b c d : Int}  : CallR Try.prog n_slices_IndexFunc_Corner [.slice (some ⟨0, 0, none⟩) 1 1, fnv n_impl_limited_2] [[ii a, ii b, ii c, ii d]] (ii (idx1F (!bigF a b c d))) := by
  refine callR_of good fn_slices_IndexFunc_Corner rfl rfl ?_
  conv => whnf
  all_goals (repeat' first
    | exact (by assumption : (_ : Bool) = (_ : Bool))
    | (refine br_true (by assumption) ?_; conv => whnf)
    | (refine br_false (by assumption) ?_; conv => whnf)
    | (refine br_not ?_; conv => whnf)
    | (refine br_code ?_; conv => whnf)
    | (with_reducible refine br_and ?_; conv => whnf)
    | (with_reducible refine br_or ?_; conv => whnf)
    | (refine br_eq2 ?_; conv => whnf)
    | (refine c_impl_limited_2.call ?_; conv => whnf)
    | (refine c_impl_limited_2.quiet ?_; conv => whnf)
    | (refine draw_auto (by decide +kernel) ?_; conv => whnf)
    | (refine draw_asg (by decide +kernel) ?_; conv => whnf)
    | (refine draw_st (by decide +kernel) ?_; conv => whnf)
    | (refine loop_n 12 ?_; conv => whnf)
    | (refine br_split (fun _ => ?_) (fun _ => ?_) <;> conv => whnf)
    | exact (rfl : (_ : Value) = _)
    | (simp only [*]; exact (rfl : (_ : Value) = _))
    | (simp [idx1F, *]; done))

theorem c_contains_lim1_1 {a b c d : Int}  : CallR Try.prog n_slices_ContainsFunc_Corner [.slice (some ⟨0, 0, none⟩) 1 1, fnv n_impl_limited_1] [[ii a, ii b, ii c, ii d]] (bb (!(isCornF a b c d))) := by
  refine callR_of good fn_slices_ContainsFunc_Corner rfl rfl ?_
  conv => whnf
  all_goals (repeat' first
    | exact (by assumption : (_ : Bool) = (_ : Bool))
    | (refine br_true (by assumption) ?_; conv => whnf)
    | (refine br_false (by assumption) ?_; conv => whnf)
    | (refine br_not ?_; conv => whnf)
    | (refine br_code ?_; conv => whnf)
    | (with_reducible refine br_and ?_; conv => whnf)
    | (with_reducible refine br_or ?_; conv => whnf)
    | (refine br_eq2 ?_; conv => whnf)
    | (refine c_index_lim1_1.call1 rfl rfl ⟨_, rfl⟩ ?_; conv => whnf)
    | (refine c_index_lim1_1.quiet1 rfl rfl ⟨_, rfl⟩ ?_; conv => whnf)
    | (refine c_index_lim2_1.call1 rfl rfl ⟨_, rfl⟩ ?_; conv => whnf)
    | (refine c_index_lim2_1.quiet1 rfl rfl ⟨_, rfl⟩ ?_; conv => whnf)
    | (refine draw_auto (by decide +kernel) ?_; conv => whnf)
    | (refine draw_asg (by decide +kernel) ?_; conv => whnf)
    | (refine draw_st (by decide +kernel) ?_; conv => whnf)
    | (refine loop_n 12 ?_; conv => whnf)
    | (refine br_split (fun _ => ?_) (fun _ => ?_) <;> conv => whnf)
    | exact (rfl : (_ : Value) = _)
    | exact congrArg Value.bool (idx1_ge _)
    | (simp only [*]; exact (rfl : (_ : Value) = _))
    | (simp [*]; done))

theorem c_contains_lim2_1 {a b c d : Int}  : CallR Try.prog n_slices_ContainsFunc_Corner [.slice (some ⟨0, 0, none⟩) 1 1, fnv n_impl_limited_2] [[ii a, ii b, ii c, ii d]] (bb (bigF a b c d)) := by
  refine callR_of good fn_slices_ContainsFunc_Corner rfl rfl ?_
  conv => whnf
  all_goals (repeat' first
    | exact (by assumption : (_ : Bool) = (_ : Bool))
    | (refine br_true (by assumption) ?_; conv => whnf)
    | (refine br_false (by assumption) ?_; conv => whnf)
    | (refine br_not ?_; conv => whnf)
    | (refine br_code ?_; conv => whnf)
    | (with_reducible refine br_and ?_; conv => whnf)
    | (with_reducible refine br_or ?_; conv => whnf)
    | (refine br_eq2 ?_; conv => whnf)
    | (refine c_index_lim1_1.call1 rfl rfl ⟨_, rfl⟩ ?_; conv => whnf)
    | (refine c_index_lim1_1.quiet1 rfl rfl ⟨_, rfl⟩ ?_; conv => whnf)
    | (refine c_index_lim2_1.call1 rfl rfl ⟨_, rfl⟩ ?_; conv => whnf)
    | (refine c_index_lim2_1.quiet1 rfl rfl ⟨_, rfl⟩ ?_; conv => whnf)
    | (refine draw_auto (by decide +kernel) ?_; conv => whnf)
    | (refine draw_asg (by decide +kernel) ?_; conv => whnf)
    | (refine draw_st (by decide +kernel) ?_; conv => whnf)
    | (refine loop_n 12 ?_; conv => whnf)
    | (refine br_split (fun _ => ?_) (fun _ => ?_) <;> conv => whnf)
    | exact (rfl : (_ : Value) = _)
    | exact congrArg Value.bool (idx1_ge' _)
    | (simp only [*]; exact (rfl : (_ : Value) = _))
    | (simp [*]; done))

theorem c_limited_1 {a b c d : Int}  : CallR Try.prog n_impl_limited [.slice (some ⟨0, 0, none⟩) 1 1] [[ii a, ii b, ii c, ii d]] (ii (limF (isCornF a b c d) (bigF a b c d))) := by
  refine callR_of good fn_impl_limited rfl rfl ?_
  conv => whnf
  all_goals (repeat' first
    | exact (by assumption : (_ : Bool) = (_ : Bool))
    | (refine br_true (by assumption) ?_; conv => whnf)
    | (refine br_false (by assumption) ?_; conv => whnf)
    | (refine br_not ?_; conv => whnf)
    | (refine br_code ?_; conv => whnf)
    | (with_reducible refine br_and ?_; conv => whnf)
    | (with_reducible refine br_or ?_; conv => whnf)
    | (refine br_eq2 ?_; conv => whnf)
    | (refine c_contains_lim1_1.call1 rfl rfl ⟨_, rfl⟩ ?_; conv => whnf)
    | (refine c_contains_lim1_1.quiet1 rfl rfl ⟨_, rfl⟩ ?_; conv => whnf)
    | (refine c_contains_lim2_1.call1 rfl rfl ⟨_, rfl⟩ ?_; conv => whnf)
    | (refine c_contains_lim2_1.quiet1 rfl rfl ⟨_, rfl⟩ ?_; conv => whnf)
    | (refine c_impl_limited_1.call ?_; conv => whnf)
    | (refine c_impl_limited_1.quiet ?_; conv => whnf)
    | (refine c_impl_limited_2.call ?_; conv => whnf)
    | (refine c_impl_limited_2.quiet ?_; conv => whnf)
    | (refine draw_auto (by decide +kernel) ?_; conv => whnf)
    | (refine draw_asg (by decide +kernel) ?_; conv => whnf)
    | (refine draw_st (by decide +kernel) ?_; conv => whnf)
    | (refine loop_n 12 ?_; conv => whnf)
    | (refine br_split (fun _ => ?_) (fun _ => ?_) <;> conv => whnf)
    | exact (rfl : (_ : Value) = _)
    | (simp only [*]; exact (rfl : (_ : Value) = _))
    | (simp [limF, selF, *]; done))

theorem c_l02Code_1 {a b c d : Int}  : CallR Try.prog n_spec_l02Code [.slice (some ⟨0, 0, none⟩) 1 1] [[ii a, ii b, ii c, ii d]] (ii (limF (isCornF a b c d) (bigF a b c d))) := by
  refine callR_of good fn_spec_l02Code rfl rfl ?_
  conv => whnf
  all_goals (repeat' first
    | exact (by assumption : (_ : Bool) = (_ : Bool))
    | (refine br_true (by assumption) ?_; conv => whnf)
    | (refine br_false (by assumption) ?_; conv => whnf)
    | (refine br_not ?_; conv => whnf)
    | (refine br_code ?_; conv => whnf)
    | (with_reducible refine br_and ?_; conv => whnf)
    | (with_reducible refine br_or ?_; conv => whnf)
    | (refine br_eq2 ?_; conv => whnf)
    | (refine c_spec_l02Is.call ?_; conv => whnf)
    | (refine c_spec_l02Is.quiet ?_; conv => whnf)
    | (refine c_spec_l02Sine.call ?_; conv => whnf)
    | (refine c_spec_l02Sine.quiet ?_; conv => whnf)
    | (refine draw_auto (by decide +kernel) ?_; conv => whnf)
    | (refine draw_asg (by decide +kernel) ?_; conv => whnf)
    | (refine draw_st (by decide +kernel) ?_; conv => whnf)
    | (refine loop_n 12 ?_; conv => whnf)
    | (refine br_split (fun _ => ?_) (fun _ => ?_) <;> conv => whnf)
    | exact (rfl : (_ : Value) = _)
    | (simp only [*]; exact (rfl : (_ : Value) = _))
    | (simp [limF, selF, bigF, *]; done))

theorem c_index_lim1_2 {a b c d e f g i : Int}  : CallR Try.prog n_slices_IndexFunc_Corner [.slice (some ⟨0, 0, none⟩) 2 2, fnv n_impl_limited_1] [[ii a, ii b, ii c, ii d, ii e, ii f, ii g, ii i]] (ii (idx2F (isCornF a b c d) (isCornF e f g i))) := by
  refine callR_of good fn_slices_IndexFunc_Corner rfl rfl ?_
  conv => whnf
  all_goals (repeat' first
    | exact (by assumption : (_ : Bool) = (_ : Bool))
    | (refine br_true (by assumption) ?_; conv => whnf)
    | (refine br_false (by assumption) ?_; conv => whnf)
    | (refine br_not ?_; conv => whnf)
    | (refine br_code ?_; conv => whnf)
    | (with_reducible refine br_and ?_; conv => whnf)
    | (with_reducible refine br_or ?_; conv => whnf)
    | (refine br_eq2 ?_; conv => whnf)
    | (refine c_impl_limited_1.call ?_; conv => whnf)
    | (refine c_impl_limited_1.quiet ?_; conv => whnf)
    | (refine draw_auto (by decide +kernel) ?_; conv => whnf)
    | (refine draw_asg (by decide +kernel) ?_; conv => whnf)
    | (refine draw_st (by decide +kernel) ?_; conv => whnf)
    | (refine loop_n 12 ?_; conv => whnf)
    | (refine br_split (fun _ => ?_) (fun _ => ?_) <;> conv => whnf)
    | exact (rfl : (_ : Value) = _)
    | (simp only [*]; exact (rfl : (_ : Value) = _))
    | (simp [idx2F, *]; done))

theorem c_index_lim2_2 {a b c d e f g i : Int}  : CallR Try.prog n_slices_IndexFunc_Corner [.slice (some ⟨0, 0, none⟩) 2 2, fnv n_impl_limited_2] [[ii a, ii b, ii c, ii d, ii e, ii f, ii g, ii i]] (ii (idx2F (!bigF a b c d) (!bigF e f g i))) := by
  refine callR_of good fn_slices_IndexFunc_Corner rfl rfl ?_
  conv => whnf
  all_goals (repeat' first
    | exact (by assumption : (_ : Bool) = (_ : Bool))
    | (refine br_true (by assumption) ?_; conv => whnf)
    | (refine br_false (by assumption) ?_; conv => whnf)
    | (refine br_not ?_; conv => whnf)
    | (refine br_code ?_; conv => whnf)
    | (with_reducible refine br_and ?_; conv => whnf)
    | (with_reducible refine br_or ?_; conv => whnf)
    | (refine br_eq2 ?_; conv => whnf)
    | (refine c_impl_limited_2.call ?_; conv => whnf)
    | (refine c_impl_limited_2.quiet ?_; conv => whnf)
    | (refine draw_auto (by decide +kernel) ?_; conv => whnf)
    | (refine draw_asg (by decide +kernel) ?_; conv => whnf)
    | (refine draw_st (by decide +kernel) ?_; conv => whnf)
    | (refine loop_n 12 ?_; conv => whnf)
    | (refine br_split (fun _ => ?_) (fun _ => ?_) <;> conv => whnf)
    | exact (rfl : (_ : Value) = _)
    | (simp only [*]; exact (rfl : (_ : Value) = _))
    | (simp [idx2F, *]; done))

theorem c_contains_lim1_2 {a b c d e f g i : Int}  : CallR Try.prog n_slices_ContainsFunc_Corner [.slice (some ⟨0, 0, none⟩) 2 2, fnv n_impl_limited_1] [[ii a, ii b, ii c, ii d, ii e, ii f, ii g, ii i]] (bb (!(isCornF a b c d && isCornF e f g i))) := by
  refine callR_of good fn_slices_ContainsFunc_Corner rfl rfl ?_
  conv => whnf
  all_goals (repeat' first
    | exact (by assumption : (_ : Bool) = (_ : Bool))
    | (refine br_true (by assumption) ?_; conv => whnf)
    | (refine br_false (by assumption) ?_; conv => whnf)
    | (refine br_not ?_; conv => whnf)
    | (refine br_code ?_; conv => whnf)
    | (with_reducible refine br_and ?_; conv => whnf)
    | (with_reducible refine br_or ?_; conv => whnf)
    | (refine br_eq2 ?_; conv => whnf)
    | (refine c_index_lim1_1.call1 rfl rfl ⟨_, rfl⟩ ?_; conv => whnf)
    | (refine c_index_lim1_1.quiet1 rfl rfl ⟨_, rfl⟩ ?_; conv => whnf)
    | (refine c_index_lim2_1.call1 rfl rfl ⟨_, rfl⟩ ?_; conv => whnf)
    | (refine c_index_lim2_1.quiet1 rfl rfl ⟨_, rfl⟩ ?_; conv => whnf)
    | (refine c_index_lim1_2.call1 rfl rfl ⟨_, rfl⟩ ?_; conv => whnf)
    | (refine c_index_lim1_2.quiet1 rfl rfl ⟨_, rfl⟩ ?_; conv => whnf)
    | (refine c_index_lim2_2.call1 rfl rfl ⟨_, rfl⟩ ?_; conv => whnf)
    | (refine c_index_lim2_2.quiet1 rfl rfl ⟨_, rfl⟩ ?_; conv => whnf)
    | (refine draw_auto (by decide +kernel) ?_; conv => whnf)
    | (refine draw_asg (by decide +kernel) ?_; conv => whnf)
    | (refine draw_st (by decide +kernel) ?_; conv => whnf)
    | (refine loop_n 12 ?_; conv => whnf)
    | (refine br_split (fun _ => ?_) (fun _ => ?_) <;> conv => whnf)
    | exact (rfl : (_ : Value) = _)
    | exact congrArg Value.bool (idx2_ge _ _)
    | (simp only [*]; exact (rfl : (_ : Value) = _))
    | (simp [*]; done))

theorem c_contains_lim2_2 {a b c d e f g i : Int}  : CallR Try.prog n_slices_ContainsFunc_Corner [.slice (some ⟨0, 0, none⟩) 2 2, fnv n_impl_limited_2] [[ii a, ii b, ii c, ii d, ii e, ii f, ii g, ii i]] (bb (bigF a b c d || bigF e f g i)) := by
  refine callR_of good fn_slices_ContainsFunc_Corner rfl rfl ?_
  conv => whnf
  all_goals (repeat' first
    | exact (by assumption : (_ : Bool) = (_ : Bool))
    | (refine br_true (by assumption) ?_; conv => whnf)
    | (refine br_false (by assumption) ?_; conv => whnf)
    | (refine br_not ?_; conv => whnf)
    | (refine br_code ?_; conv => whnf)
    | (with_reducible refine br_and ?_; conv => whnf)
    | (with_reducible refine br_or ?_; conv => whnf)
    | (refine br_eq2 ?_; conv => whnf)
    | (refine c_index_lim1_1.call1 rfl rfl ⟨_, rfl⟩ ?_; conv => whnf)
    | (refine c_index_lim1_1.quiet1 rfl rfl ⟨_, rfl⟩ ?_; conv => whnf)
    | (refine c_index_lim2_1.call1 rfl rfl ⟨_, rfl⟩ ?_; conv => whnf)
    | (refine c_index_lim2_1.quiet1 rfl rfl ⟨_, rfl⟩ ?_; conv => whnf)
    | (refine c_index_lim1_2.call1 rfl rfl ⟨_, rfl⟩ ?_; conv => whnf)
    | (refine c_index_lim1_2.quiet1 rfl rfl ⟨_, rfl⟩ ?_; conv => whnf)
    | (refine c_index_lim2_2.call1 rfl rfl ⟨_, rfl⟩ ?_; conv => whnf)
    | (refine c_index_lim2_2.quiet1 rfl rfl ⟨_, rfl⟩ ?_; conv => whnf)
    | (refine draw_auto (by decide +kernel) ?_; conv => whnf)
    | (refine draw_asg (by decide +kernel) ?_; conv => whnf)
    | (refine draw_st (by decide +kernel) ?_; conv => whnf)
    | (refine loop_n 12 ?_; conv => whnf)
    | (refine br_split (fun _ => ?_) (fun _ => ?_) <;> conv => whnf)
    | exact (rfl : (_ : Value) = _)
    | exact congrArg Value.bool (idx2_ge' _ _)
    | (simp only [*]; exact (rfl : (_ : Value) = _))
    | (simp [*]; done))

theorem c_limited_2 {a b c d e f g i : Int}  : CallR Try.prog n_impl_limited [.slice (some ⟨0, 0, none⟩) 2 2] [[ii a, ii b, ii c, ii d, ii e, ii f, ii g, ii i]] (ii (limF (isCornF a b c d && isCornF e f g i) (bigF a b c d || bigF e f g i))) := by
  refine callR_of good fn_impl_limited rfl rfl ?_
  conv => whnf
  all_goals (repeat' first
    | exact (by assumption : (_ : Bool) = (_ : Bool))
    | (refine br_true (by assumption) ?_; conv => whnf)
    | (refine br_false (by assumption) ?_; conv => whnf)
    | (refine br_not ?_; conv => whnf)
    | (refine br_code ?_; conv => whnf)
    | (with_reducible refine br_and ?_; conv => whnf)
    | (with_reducible refine br_or ?_; conv => whnf)
    | (refine br_eq2 ?_; conv => whnf)
    | (refine c_contains_lim1_1.call1 rfl rfl ⟨_, rfl⟩ ?_; conv => whnf)
    | (refine c_contains_lim1_1.quiet1 rfl rfl ⟨_, rfl⟩ ?_; conv => whnf)
    | (refine c_contains_lim2_1.call1 rfl rfl ⟨_, rfl⟩ ?_; conv => whnf)
    | (refine c_contains_lim2_1.quiet1 rfl rfl ⟨_, rfl⟩ ?_; conv => whnf)
    | (refine c_contains_lim1_2.call1 rfl rfl ⟨_, rfl⟩ ?_; conv => whnf)
    | (refine c_contains_lim1_2.quiet1 rfl rfl ⟨_, rfl⟩ ?_; conv => whnf)
    | (refine c_contains_lim2_2.call1 rfl rfl ⟨_, rfl⟩ ?_; conv => whnf)
    | (refine c_contains_lim2_2.quiet1 rfl rfl ⟨_, rfl⟩ ?_; conv => whnf)
    | (refine c_impl_limited_1.call ?_; conv => whnf)
    | (refine c_impl_limited_1.quiet ?_; conv => whnf)
    | (refine c_impl_limited_2.call ?_; conv => whnf)
    | (refine c_impl_limited_2.quiet ?_; conv => whnf)
    | (refine draw_auto (by decide +kernel) ?_; conv => whnf)
    | (refine draw_asg (by decide +kernel) ?_; conv => whnf)
    | (refine draw_st (by decide +kernel) ?_; conv => whnf)
    | (refine loop_n 12 ?_; conv => whnf)
    | (refine br_split (fun _ => ?_) (fun _ => ?_) <;> conv => whnf)
    | exact (rfl : (_ : Value) = _)
    | (simp only [*]; exact (rfl : (_ : Value) = _))
    | (simp [limF, selF, *]; done))

theorem c_l02Code_2 {a b c d e f g i : Int}  : CallR Try.prog n_spec_l02Code [.slice (some ⟨0, 0, none⟩) 2 2] [[ii a, ii b, ii c, ii d, ii e, ii f, ii g, ii i]] (ii (limF (isCornF a b c d && isCornF e f g i) (bigF a b c d || bigF e f g i))) := by
  refine callR_of good fn_spec_l02Code rfl rfl ?_
  conv => whnf
  all_goals (repeat' first
    | exact (by assumption : (_ : Bool) = (_ : Bool))
    | (refine br_true (by assumption) ?_; conv => whnf)
    | (refine br_false (by assumption) ?_; conv => whnf)
    | (refine br_not ?_; conv => whnf)
    | (refine br_code ?_; conv => whnf)
    | (with_reducible refine br_and ?_; conv => whnf)
    | (with_reducible refine br_or ?_; conv => whnf)
    | (refine br_eq2 ?_; conv => whnf)
    | (refine c_spec_l02Is.call ?_; conv => whnf)
    | (refine c_spec_l02Is.quiet ?_; conv => whnf)
    | (refine c_spec_l02Sine.call ?_; conv => whnf)
    | (refine c_spec_l02Sine.quiet ?_; conv => whnf)
    | (refine draw_auto (by decide +kernel) ?_; conv => whnf)
    | (refine draw_asg (by decide +kernel) ?_; conv => whnf)
    | (refine draw_st (by decide +kernel) ?_; conv => whnf)
    | (refine loop_n 12 ?_; conv => whnf)
    | (refine br_split (fun _ => ?_) (fun _ => ?_) <;> conv => whnf)
    | exact (rfl : (_ : Value) = _)
    | (simp only [*]; exact (rfl : (_ : Value) = _))
    | (simp [limF, selF, bigF, *]; done))

theorem c_impl_SineOf {a b c d : Int}  : Pure Try.prog n_impl_SineOf [q4 a b c d] (t2 (ii (selF (isCornF a b c d) (selF (bigF a b c d) 0 (sineF a b c d)) 0)) (ii (limF (isCornF a b c d) (bigF a b c d)))) := by
  refine pure_of good fn_impl_SineOf rfl rfl ?_
  conv => whnf
  all_goals (repeat' first
    | (refine br_lim ?_; conv => whnf)
    | exact (by assumption : (_ : Bool) = (_ : Bool))
    | (refine br_true (by assumption) ?_; conv => whnf)
    | (refine br_false (by assumption) ?_; conv => whnf)
    | (refine br_not ?_; conv => whnf)
    | (refine br_code ?_; conv => whnf)
    | (with_reducible refine br_and ?_; conv => whnf)
    | (with_reducible refine br_or ?_; conv => whnf)
    | (refine br_eq2 ?_; conv => whnf)
    | (refine c_limited_1.call1 rfl rfl ⟨_, rfl⟩ ?_; conv => whnf)
    | (refine c_limited_1.quiet1 rfl rfl ⟨_, rfl⟩ ?_; conv => whnf)
    | (refine c_limited_2.call1 rfl rfl ⟨_, rfl⟩ ?_; conv => whnf)
    | (refine c_limited_2.quiet1 rfl rfl ⟨_, rfl⟩ ?_; conv => whnf)
    | (refine c_impl_Corner_sine.call ?_; conv => whnf)
    | (refine c_impl_Corner_sine.quiet ?_; conv => whnf)
    | (refine draw_auto (by decide +kernel) ?_; conv => whnf)
    | (refine draw_asg (by decide +kernel) ?_; conv => whnf)
    | (refine draw_st (by decide +kernel) ?_; conv => whnf)
    | (refine loop_n 12 ?_; conv => whnf)
    | (refine br_split (fun _ => ?_) (fun _ => ?_) <;> conv => whnf)
    | exact (rfl : (_ : Value) = _)
    | (simp only [*]; exact (rfl : (_ : Value) = _))
    | (simp [selF, limF, *]; done))

theorem c_spec_SineOf {a b c d : Int}  : Pure Try.prog n_spec_SineOf [q4 a b c d] (t2 (ii (selF (isCornF a b c d) (selF (bigF a b c d) 0 (sineF a b c d)) 0)) (ii (limF (isCornF a b c d) (bigF a b c d)))) := by
  refine pure_of good fn_spec_SineOf rfl rfl ?_
  conv => whnf
  all_goals (repeat' first
    | (refine br_lim ?_; conv => whnf)
    | exact (by assumption : (_ : Bool) = (_ : Bool))
    | (refine br_true (by assumption) ?_; conv => whnf)
    | (refine br_false (by assumption) ?_; conv => whnf)
    | (refine br_not ?_; conv => whnf)
    | (refine br_code ?_; conv => whnf)
    | (with_reducible refine br_and ?_; conv => whnf)
    | (with_reducible refine br_or ?_; conv => whnf)
    | (refine br_eq2 ?_; conv => whnf)
    | (refine c_l02Code_1.call1 rfl rfl ⟨_, rfl⟩ ?_; conv => whnf)
    | (refine c_l02Code_1.quiet1 rfl rfl ⟨_, rfl⟩ ?_; conv => whnf)
    | (refine c_l02Code_2.call1 rfl rfl ⟨_, rfl⟩ ?_; conv => whnf)
    | (refine c_l02Code_2.quiet1 rfl rfl ⟨_, rfl⟩ ?_; conv => whnf)
    | (refine c_spec_l02Sine.call ?_; conv => whnf)
    | (refine c_spec_l02Sine.quiet ?_; conv => whnf)
    | (refine draw_auto (by decide +kernel) ?_; conv => whnf)
    | (refine draw_asg (by decide +kernel) ?_; conv => whnf)
    | (refine draw_st (by decide +kernel) ?_; conv => whnf)
    | (refine loop_n 12 ?_; conv => whnf)
    | (refine br_split (fun _ => ?_) (fun _ => ?_) <;> conv => whnf)
    | exact (rfl : (_ : Value) = _)
    | (simp only [*]; exact (rfl : (_ : Value) = _))
    | (simp [selF, limF, *]; done))

theorem c_laws_toCorner {a b c d : Int}  : Pure Try.prog n_laws_toCorner [q4 a b c d] (q4 a b c d) := by
  refine pure_of good fn_laws_toCorner rfl rfl ?_
  conv => whnf
  all_goals (repeat' first
    | exact (by assumption : (_ : Bool) = (_ : Bool))
    | (refine br_true (by assumption) ?_; conv => whnf)
    | (refine br_false (by assumption) ?_; conv => whnf)
    | (refine br_not ?_; conv => whnf)
    | (refine br_code ?_; conv => whnf)
    | (with_reducible refine br_and ?_; conv => whnf)
    | (with_reducible refine br_or ?_; conv => whnf)
    | (refine br_eq2 ?_; conv => whnf)
    | (refine c_laws_toPoint.call ?_; conv => whnf)
    | (refine c_laws_toPoint.quiet ?_; conv => whnf)
    | (refine draw_auto (by decide +kernel) ?_; conv => whnf)
    | (refine draw_asg (by decide +kernel) ?_; conv => whnf)
    | (refine draw_st (by decide +kernel) ?_; conv => whnf)
    | (refine loop_n 12 ?_; conv => whnf)
    | (refine br_split (fun _ => ?_) (fun _ => ?_) <;> conv => whnf)
    | exact (rfl : (_ : Value) = _)
    | (simp only [*]; exact (rfl : (_ : Value) = _))
    | (simp [*]; done))

theorem c_impl_IsFraction {a b : Int}  : Pure Try.prog n_impl_IsFraction [pt a b] (bb (isFracF a b)) := by
  refine pure_of good fn_impl_IsFraction rfl rfl ?_
  conv => whnf
  all_goals (repeat' first
    | exact (by assumption : (_ : Bool) = (_ : Bool))
    | (refine br_true (by assumption) ?_; conv => whnf)
    | (refine br_false (by assumption) ?_; conv => whnf)
    | (refine br_not ?_; conv => whnf)
    | (refine br_code ?_; conv => whnf)
    | (with_reducible refine br_and ?_; conv => whnf)
    | (with_reducible refine br_or ?_; conv => whnf)
    | (refine br_eq2 ?_; conv => whnf)
    | (refine c_impl_IsPoint.call ?_; conv => whnf)
    | (refine c_impl_IsPoint.quiet ?_; conv => whnf)
    | (refine c_impl_Point_isPrimitive.call ?_; conv => whnf)
    | (refine c_impl_Point_isPrimitive.quiet ?_; conv => whnf)
    | (refine draw_auto (by decide +kernel) ?_; conv => whnf)
    | (refine draw_asg (by decide +kernel) ?_; conv => whnf)
    | (refine draw_st (by decide +kernel) ?_; conv => whnf)
    | (refine loop_n 12 ?_; conv => whnf)
    | (refine br_split (fun _ => ?_) (fun _ => ?_) <;> conv => whnf)
    | exact (rfl : (_ : Value) = _)
    | (simp only [*]; exact (rfl : (_ : Value) = _))
    | (simp [isFracF, *]; done))

theorem c_spec_l05Is {a b : Int}  : Pure Try.prog n_spec_l05Is [pt a b] (bb (isFracF a b)) := by
  refine pure_of good fn_spec_l05Is rfl rfl ?_
  conv => whnf
  all_goals (repeat' first
    | exact (by assumption : (_ : Bool) = (_ : Bool))
    | (refine br_true (by assumption) ?_; conv => whnf)
    | (refine br_false (by assumption) ?_; conv => whnf)
    | (refine br_not ?_; conv => whnf)
    | (refine br_code ?_; conv => whnf)
    | (with_reducible refine br_and ?_; conv => whnf)
    | (with_reducible refine br_or ?_; conv => whnf)
    | (refine br_eq2 ?_; conv => whnf)
    | (refine c_spec_l01Is.call ?_; conv => whnf)
    | (refine c_spec_l01Is.quiet ?_; conv => whnf)
    | (refine c_spec_l01Gcd.call ?_; conv => whnf)
    | (refine c_spec_l01Gcd.quiet ?_; conv => whnf)
    | (refine draw_auto (by decide +kernel) ?_; conv => whnf)
    | (refine draw_asg (by decide +kernel) ?_; conv => whnf)
    | (refine draw_st (by decide +kernel) ?_; conv => whnf)
    | (refine loop_n 12 ?_; conv => whnf)
    | (refine br_split (fun _ => ?_) (fun _ => ?_) <;> conv => whnf)
    | exact (rfl : (_ : Value) = _)
    | (simp only [*]; exact (rfl : (_ : Value) = _))
    | (simp [isFrac_alt, primF, *]; done))

theorem c_index_points_1 {a b : Int}  : CallR Try.prog n_slices_IndexFunc_Point [.slice (some ⟨0, 0, none⟩) 1 1, fnv n_impl_points_1] [[ii a, ii b]] (ii (idx1F (isPtF a b))) := by
  refine callR_of good fn_slices_IndexFunc_Point rfl rfl ?_
  conv => whnf
  all_goals (repeat' first
    | exact (by assumption : (_ : Bool) = (_ : Bool))
    | (refine br_true (by assumption) ?_; conv => whnf)
    | (refine br_false (by assumption) ?_; conv => whnf)
    | (refine br_not ?_; conv => whnf)
    | (refine br_code ?_; conv => whnf)
    | (with_reducible refine br_and ?_; conv => whnf)
    | (with_reducible refine br_or ?_; conv => whnf)
    | (refine br_eq2 ?_; conv => whnf)
    | (refine c_impl_points_1.call ?_; conv => whnf)
    | (refine c_impl_points_1.quiet ?_; conv => whnf)
    | (refine draw_auto (by decide +kernel) ?_; conv => whnf)
    | (refine draw_asg (by decide +kernel) ?_; conv => whnf)
    | (refine draw_st (by decide +kernel) ?_; conv => whnf)
    | (refine loop_n 12 ?_; conv => whnf)
    | (refine br_split (fun _ => ?_) (fun _ => ?_) <;> conv => whnf)
    | exact (rfl : (_ : Value) = _)
    | (simp only [*]; exact (rfl : (_ : Value) = _))
    | (simp [idx1F, *]; done))

theorem c_contains_points_1 {a b : Int}  : CallR Try.prog n_slices_ContainsFunc_Point [.slice (some ⟨0, 0, none⟩) 1 1, fnv n_impl_points_1] [[ii a, ii b]] (bb (!(isPtF a b))) := by
  refine callR_of good fn_slices_ContainsFunc_Point rfl rfl ?_
  conv => whnf
  all_goals (repeat' first
    | exact (by assumption : (_ : Bool) = (_ : Bool))
    | (refine br_true (by assumption) ?_; conv => whnf)
    | (refine br_false (by assumption) ?_; conv => whnf)
    | (refine br_not ?_; conv => whnf)
    | (refine br_code ?_; conv => whnf)
    | (with_reducible refine br_and ?_; conv => whnf)
    | (with_reducible refine br_or ?_; conv => whnf)
    | (refine br_eq2 ?_; conv => whnf)
    | (refine c_index_points_2.call1 rfl rfl ⟨_, rfl⟩ ?_; conv => whnf)
    | (refine c_index_points_2.quiet1 rfl rfl ⟨_, rfl⟩ ?_; conv => whnf)
    | (refine c_index_points_3.call1 rfl rfl ⟨_, rfl⟩ ?_; conv => whnf)
    | (refine c_index_points_3.quiet1 rfl rfl ⟨_, rfl⟩ ?_; conv => whnf)
    | (refine c_index_points_1.call1 rfl rfl ⟨_, rfl⟩ ?_; conv => whnf)
    | (refine c_index_points_1.quiet1 rfl rfl ⟨_, rfl⟩ ?_; conv => whnf)
    | (refine draw_auto (by decide +kernel) ?_; conv => whnf)
    | (refine draw_asg (by decide +kernel) ?_; conv => whnf)
    | (refine draw_st (by decide +kernel) ?_; conv => whnf)
    | (refine loop_n 12 ?_; conv => whnf)
    | (refine br_split (fun _ => ?_) (fun _ => ?_) <;> conv => whnf)
    | exact (rfl : (_ : Value) = _)
    | exact congrArg Value.bool (idx1_ge _)
    | (simp only [*]; exact (rfl : (_ : Value) = _))
    | (simp [*]; done))

theorem c_points_1 {a b : Int}  : CallR Try.prog n_impl_points [.slice (some ⟨0, 0, none⟩) 1 1] [[ii a, ii b]] (bb (isPtF a b)) := by
  refine callR_of good fn_impl_points rfl rfl ?_
  conv => whnf
  all_goals (repeat' first
    | exact (by assumption : (_ : Bool) = (_ : Bool))
    | (refine br_true (by assumption) ?_; conv => whnf)
    | (refine br_false (by assumption) ?_; conv => whnf)
    | (refine br_not ?_; conv => whnf)
    | (refine br_code ?_; conv => whnf)
    | (with_reducible refine br_and ?_; conv => whnf)
    | (with_reducible refine br_or ?_; conv => whnf)
    | (refine br_eq2 ?_; conv => whnf)
    | (refine c_contains_points_2.call1 rfl rfl ⟨_, rfl⟩ ?_; conv => whnf)
    | (refine c_contains_points_2.quiet1 rfl rfl ⟨_, rfl⟩ ?_; conv => whnf)
    | (refine c_contains_points_3.call1 rfl rfl ⟨_, rfl⟩ ?_; conv => whnf)
    | (refine c_contains_points_3.quiet1 rfl rfl ⟨_, rfl⟩ ?_; conv => whnf)
    | (refine c_contains_points_1.call1 rfl rfl ⟨_, rfl⟩ ?_; conv => whnf)
    | (refine c_contains_points_1.quiet1 rfl rfl ⟨_, rfl⟩ ?_; conv => whnf)
    | (refine c_impl_points_1.call ?_; conv => whnf)
    | (refine c_impl_points_1.quiet ?_; conv => whnf)
    | (refine draw_auto (by decide +kernel) ?_; conv => whnf)
    | (refine draw_asg (by decide +kernel) ?_; conv => whnf)
    | (refine draw_st (by decide +kernel) ?_; conv => whnf)
    | (refine loop_n 12 ?_; conv => whnf)
    | (refine br_split (fun _ => ?_) (fun _ => ?_) <;> conv => whnf)
    | exact (rfl : (_ : Value) = _)
    | (simp only [*]; exact (rfl : (_ : Value) = _))
    | (simp [*]; done))

end Go.Proofs.Ytgbnoaggnfjjgaa
