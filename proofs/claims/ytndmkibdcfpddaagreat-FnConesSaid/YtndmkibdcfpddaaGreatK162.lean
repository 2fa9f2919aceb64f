/-
  Contracts of functions of the program (printed by a program of this work; Lean checks each).
  Conditions: as each contract states.
-/
import Derived.Test.YtndmkibdcfpddaaGreatK161
import Derived.Test.YtndmkibdcfpddaaGreatKM4
namespace Go.Proofs.YtndmkibdcfpddaaGreat
open Go.Ev Go.RowKit
set_option maxRecDepth 100000
set_option linter.unusedVariables false
set_option linter.unusedSimpArgs false

attribute [local irreducible] isConeF isSpF sizeF volF
theorem c_DetS_cone {a b c d e f g h i : Int} (hc : isConeF a b c d e f g h i = true) : Pure Tryz.prog n_impl_DeterminantOfSpots [v3 a b c, v3 d e f, v3 g h i] (t2 (ii (volF a b c d e f g h i)) (ii 0)) := by
  have := c_impl_DetS (a := a) (b := b) (c := c) (d := d) (e := e) (f := f) (g := g) (h := h) (i := i)
  rw [cone_sp3 hc] at this
  exact this
theorem c_Reg_cone {k : Cn} (hk : k.Ok) : Pure Tryz.prog n_impl_IsRegularCone [v9 k.a k.b k.c k.d k.e k.f k.g k.h k.i] (t2 (bb (decide (k.D = 1))) (ii 0)) := by
  have := c_impl_Reg (a := k.a) (b := k.b) (c := k.c) (d := k.d) (e := k.e) (f := k.f) (g := k.g) (h := k.h) (i := k.i)
  rw [Cn.cone_F hk, Cn.size_F hk, Bool.true_and] at this
  exact this
theorem c_In_cone {k : Cn} {x : S3} (hk : k.Ok) (hx : x ∈ hilO k) : Pure Tryz.prog n_impl_IsInCone [v9 k.a k.b k.c k.d k.e k.f k.g k.h k.i, v3 x.1 x.2.1 x.2.2] (t2 (bb (isSpF x.1 x.2.1 x.2.2)) (ii (codeF (isSpF x.1 x.2.1 x.2.2)))) := by
  obtain ⟨hn, hs⟩ := hilO_in hk hx
  obtain ⟨e0, e1, e2⟩ := Cn.co_own hk hs
  have := c_impl_IsInCone (a := k.a) (b := k.b) (c := k.c) (d := k.d) (e := k.e) (f := k.f) (g := k.g) (h := k.h) (i := k.i) (x := x.1) (y := x.2.1) (z := x.2.2)
  rw [e0, e1, e2, Cn.cone_F hk, Bool.true_and, show (decide ((k.own x).1 ≥ 0) && decide ((k.own x).2.1 ≥ 0) && decide ((k.own x).2.2 ≥ 0)) = true from hn, Bool.and_true] at this
  exact this

abbrev cnW (v0 v3 v4 v5 v8 v9 v10 v13 v14 v15 v16 v19 v51 : Value) : List Value := [v0, wild, wild, v3, v4, v5, wild, wild, v8, v9, v10, wild, wild, v13, v14, v15, v16, wild, wild, v19, wild, wild, wild, wild, wild, wild, wild, wild, wild, wild, wild, wild, wild, wild, wild, wild, wild, wild, wild, wild, wild, wild, wild, wild, wild, wild, wild, wild, wild, wild, wild, v51, wild, wild, wild, wild, wild, wild, wild, wild, wild, wild, wild, wild, wild, wild, wild, wild, wild, wild, wild, wild, wild, wild, wild, wild, wild, wild, wild, wild, wild, wild, wild, wild, wild, wild, wild, wild, wild, wild, wild, wild, wild, wild, wild, wild, wild, wild, wild, wild, wild, wild, wild, wild, wild, wild, wild, wild, wild, wild, wild, wild, wild, wild, wild, wild, wild, wild, wild, wild, wild, wild, wild, wild, wild, wild, wild, wild, wild, wild, wild, wild, wild, wild, wild, wild, wild, wild, wild, wild, wild, wild, wild, wild, wild, wild, wild, wild, wild, wild, wild, wild, wild, wild, wild, wild, wild, wild, wild, wild, wild, wild, wild, wild, wild, wild, wild, wild, wild, wild, wild, wild, wild, wild, wild, wild, wild, wild, wild, wild, wild, wild, wild, wild, wild, wild, wild, wild, wild, wild, wild, wild, wild, wild, wild, wild, wild, wild, wild, wild, wild, wild, wild, wild, wild, wild, wild, wild, wild, wild, wild, wild, wild, wild, wild, wild, wild, wild, wild, wild, wild, wild, wild, wild, wild, wild, wild, wild, wild, wild, wild, wild, wild, wild, wild, wild, wild, wild, wild, wild, wild, wild, wild, wild, wild, wild, wild, wild, wild, wild, wild, wild, wild, wild, wild, wild, wild, wild, wild, wild, wild, wild, wild, wild, wild, wild, wild, wild, wild, wild, wild, wild, wild, wild, wild, wild, wild, wild, wild, wild, wild, wild, wild, wild, wild, wild, wild, wild, wild, wild, wild, wild, wild, wild, wild, wild, wild, wild, wild, wild, wild, wild, wild, wild, wild, wild, wild, wild, wild, wild, wild, wild, wild, wild, wild, wild, wild, wild, wild, wild, wild, wild, wild, wild, wild, wild, wild, wild, wild, wild, wild, wild, wild, wild, wild, wild, wild, wild, wild, wild, wild, wild, wild, wild, wild, wild, wild, wild, wild, wild, wild, wild, wild, wild, wild, wild, wild, wild, wild, wild, wild, wild, wild, wild, wild, wild, wild, wild, wild, wild, wild, wild, wild, wild, wild, wild, wild, wild, wild, wild, wild, wild, wild, wild, wild, wild, wild, wild, wild, wild, wild, wild, wild, wild, wild, wild, wild, wild, wild, wild, wild, wild, wild, wild, wild, wild, wild, wild, wild, wild, wild, wild, wild, wild, wild, wild, wild, wild, wild, wild, wild, wild]

end Go.Proofs.YtndmkibdcfpddaaGreat
