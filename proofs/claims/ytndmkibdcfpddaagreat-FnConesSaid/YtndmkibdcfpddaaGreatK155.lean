/-
  Contracts of functions of the program (printed by a program of this work; Lean checks each).
  Conditions: as each contract states.
-/
import Derived.Test.YtndmkibdcfpddaaGreatK154
import Derived.Test.YtndmkibdcfpddaaGreatCut
import Derived.Test.YtndmkibdcfpddaaGreatKM4
namespace Go.Proofs.YtndmkibdcfpddaaGreat
open Go.Ev Go.RowKit
set_option maxRecDepth 100000
set_option linter.unusedVariables false
set_option linter.unusedSimpArgs false

attribute [local irreducible] gcdF

theorem c_l08_rest {k : Cn} {x y : S3} (hk : k.Ok) (hx : x ∈ allS k) (hy : y ∈ allS k) : Pure Tryz.prog n_spec_l08Plus [v3 x.1 x.2.1 x.2.2, v3 y.1 y.2.1 y.2.2, ii (-1)] (v3 (sub3 x y).1 (sub3 x y).2.1 (sub3 x y).2.2) := by
  have e := (rest_F hk hx hy).1
  have := c_spec_l08Plus (a := x.1) (b := x.2.1) (c := x.2.2) (x := y.1) (y := y.2.1) (z := y.2.2) (k := -1)
  rw [show plusF x.1 (-1) y.1 = (sub3 x y).1 from congrArg (·.1) e, show plusF x.2.1 (-1) y.2.1 = (sub3 x y).2.1 from congrArg (·.2.1) e, show plusF x.2.2 (-1) y.2.2 = (sub3 x y).2.2 from congrArg (·.2.2) e] at this
  exact this
theorem c_l08_in {k : Cn} {p : S3} (hk : k.Ok) (hs : Sm3 p) : Pure Tryz.prog n_spec_l08Inside [v9 k.a k.b k.c k.d k.e k.f k.g k.h k.i, v3 p.1 p.2.1 p.2.2] (bb (nn3 (k.own p))) := by
  obtain ⟨e0, e1, e2⟩ := Cn.co_own hk hs
  have := c_spec_l08Inside (a := k.a) (b := k.b) (c := k.c) (d := k.d) (e := k.e) (f := k.f) (g := k.g) (h := k.h) (i := k.i) (x := p.1) (y := p.2.1) (z := p.2.2)
  rw [e0, e1, e2] at this
  exact this

abbrev hilR (k : Cn) : Value → Mem → Prop := fun v m_ => ∃ n c sp, Row (sl (hilS k)) sp n c 3 ∧ n ≤ 64000003 ∧ v = t2 (.slice (some ⟨0, 0, none⟩) n c) (ii 0) ∧ m_ = [(sl (hilS k) ++ sp, some t_impl_Spot)]

set_option maxHeartbeats 4000000 in
theorem hs_p1 {k : Cn} (hk : k.Ok) (h1 : isConeF k.a k.b k.c k.d k.e k.f k.g k.h k.i = true) (h2 : decide (sizeF (volF k.a k.b k.c k.d k.e k.f k.g k.h k.i) > 400) = false) : evCut Tryz.prog tbl 0 3 code13 ([v9 k.a k.b k.c k.d k.e k.f k.g k.h k.i] ++ undefs 117) [] (cutP tbl Tryz.f13.results.toList (OutK 0 (hilR k.prm)) 0 (fun tm mem => tm = [wild, .pointer (some ⟨0, 0, none⟩), wild, wild, wild, wild, wild, wild, wild, wild, wild, wild, wild, wild, wild, wild, wild, wild, wild, wild, wild, wild, wild, wild, wild, wild, wild, wild, wild, wild, wild, wild, wild, wild, wild, wild, wild, wild, wild, wild, wild, wild, wild, wild, wild, wild, wild, wild, wild, wild, wild, wild, wild, wild, wild, wild, wild, wild, wild, wild, wild, wild, wild, wild, wild, wild, wild, wild, wild, wild, wild, wild, wild, wild, wild, wild, wild, wild, wild, wild, wild, wild, wild, wild, wild, wild, wild, wild, wild, wild, wild, wild, wild, wild, wild, wild, wild, wild, wild, wild, wild, wild, wild, wild, wild, wild, wild, wild, wild, wild, wild, wild, wild, wild, wild, wild, wild, wild] ∧ mem = [([ii k.prm.a, ii k.prm.b, ii k.prm.c, ii k.prm.d, ii k.prm.e, ii k.prm.f, ii k.prm.g, ii k.prm.h, ii k.prm.i], some t_impl_Cone)])) := by
  
  conv => whnf
  all_goals (repeat' first | (refine br_false (ln_nz0 hk) ?_; conv => whnf) | (refine br_false (ln_nz1 hk) ?_; conv => whnf) | (refine br_false (ln_nz2 hk) ?_; conv => whnf) | (exact next_forget [0] ⟨rfl, rfl⟩ (tmR_rfl rfl rfl) ⟨⟨⟨_, rfl, .plain rfl rfl (by first | exact Plain.of rfl | exact Row.all (by assumption))⟩⟩, trivial⟩ rfl rfl) | (refine StoreK.mk rfl ?_; conv => whnf) | exact join_same | exact (by assumption : (_ : Bool) = (_ : Bool)) | (refine br_true (by assumption) ?_; conv => whnf) | (refine br_false (by assumption) ?_; conv => whnf) | (refine br_not ?_; conv => whnf) | (refine br_code ?_; conv => whnf) | (with_reducible refine br_and ?_; conv => whnf) | (with_reducible refine br_or ?_; conv => whnf) | (refine br_eq2 ?_; conv => whnf) | (refine c_spec_l08Is.call ?_; conv => whnf) | (refine c_spec_l08Is.quiet ?_; conv => whnf) | (refine c_spec_l08Size.call ?_; conv => whnf) | (refine c_spec_l08Size.quiet ?_; conv => whnf) | (refine c_spec_l08Length.call ?_; conv => whnf) | (refine c_spec_l08Length.quiet ?_; conv => whnf) | (refine c_l08_length.call ?_; conv => whnf) | (refine c_l08_length.quiet ?_; conv => whnf) | (refine draw_auto (by decide +kernel) ?_; conv => whnf) | (refine draw_asg (by decide +kernel) ?_; conv => whnf) | (refine draw_st (by decide +kernel) ?_; conv => whnf) | (refine draw_call (by decide +kernel) ?_; conv => whnf) | (refine enter_same (loop_n 4 ?_); conv => whnf) | (refine next_same ?_; conv => whnf) | (refine mapK_row (by assumption) ?_; conv => whnf) | (refine mapK_plain (Plain.of rfl) ?_; conv => whnf) | (refine mapK_lit ?_; conv => whnf) | (refine br_split (fun _ => ?_) (fun _ => ?_) <;> conv => whnf) | exact (rfl : (_ : Value) = _) | (simp only [*]; exact (rfl : (_ : Value) = _)) | (simp [*]; done))

end Go.Proofs.YtndmkibdcfpddaaGreat
