/-
  Several texts of this work in one (a claim holds at most 60 files).
  Conditions: as each contract states.
-/
import Derived.Test.YtndmkibdcfpddaaGreatKM1
import Derived.Test.YtndmkibdcfpddaaGreatEvUse
import Derived.Test.YtndmkibdcfpddaaGreatEvRow
section
/-
  Contracts of functions of the program (printed by a program of this work; Lean checks each).
  Conditions: as each contract states.
-/
namespace Go.Proofs.YtndmkibdcfpddaaGreat
open Go.Ev Go.RowKit
set_option maxRecDepth 100000
set_option linter.unusedVariables false
set_option linter.unusedSimpArgs false

theorem c_impl_Spot_plus {a b c x y z k : Int}  : Pure Tryz.prog n_impl_Spot_plus [v3 a b c, v3 x y z, ii k] (v3 (plusF a k x) (plusF b k y) (plusF c k z)) := by
  refine pure_of good fn_impl_Spot_plus rfl rfl ?_
  conv => whnf
  all_goals (repeat' first | (refine StoreK.mk rfl ?_; conv => whnf) | exact join_same | exact (by assumption : (_ : Bool) = (_ : Bool)) | (refine br_true (by assumption) ?_; conv => whnf) | (refine br_false (by assumption) ?_; conv => whnf) | (refine br_not ?_; conv => whnf) | (refine br_code ?_; conv => whnf) | (with_reducible refine br_and ?_; conv => whnf) | (with_reducible refine br_or ?_; conv => whnf) | (refine br_eq2 ?_; conv => whnf) | (refine draw_auto (by decide +kernel) ?_; conv => whnf) | (refine draw_asg (by decide +kernel) ?_; conv => whnf) | (refine draw_st (by decide +kernel) ?_; conv => whnf) | (refine draw_call (by decide +kernel) ?_; conv => whnf) | (refine enter_same (loop_n 12 ?_); conv => whnf) | (refine next_same ?_; conv => whnf) | (refine mapK_row (by assumption) ?_; conv => whnf) | (refine mapK_plain (Plain.of rfl) ?_; conv => whnf) | (refine mapK_lit ?_; conv => whnf) | (refine br_split (fun _ => ?_) (fun _ => ?_) <;> conv => whnf) | exact (rfl : (_ : Value) = _) | (simp only [*]; exact (rfl : (_ : Value) = _)) | (simp [*]; done))

theorem c_spec_l08Plus {a b c x y z k : Int}  : Pure Tryz.prog n_spec_l08Plus [v3 a b c, v3 x y z, ii k] (v3 (plusF a k x) (plusF b k y) (plusF c k z)) := by
  refine pure_of good fn_spec_l08Plus rfl rfl ?_
  conv => whnf
  all_goals (repeat' first | (refine StoreK.mk rfl ?_; conv => whnf) | exact join_same | exact (by assumption : (_ : Bool) = (_ : Bool)) | (refine br_true (by assumption) ?_; conv => whnf) | (refine br_false (by assumption) ?_; conv => whnf) | (refine br_not ?_; conv => whnf) | (refine br_code ?_; conv => whnf) | (with_reducible refine br_and ?_; conv => whnf) | (with_reducible refine br_or ?_; conv => whnf) | (refine br_eq2 ?_; conv => whnf) | (refine draw_auto (by decide +kernel) ?_; conv => whnf) | (refine draw_asg (by decide +kernel) ?_; conv => whnf) | (refine draw_st (by decide +kernel) ?_; conv => whnf) | (refine draw_call (by decide +kernel) ?_; conv => whnf) | (refine enter_same (loop_n 12 ?_); conv => whnf) | (refine next_same ?_; conv => whnf) | (refine mapK_row (by assumption) ?_; conv => whnf) | (refine mapK_plain (Plain.of rfl) ?_; conv => whnf) | (refine mapK_lit ?_; conv => whnf) | (refine br_split (fun _ => ?_) (fun _ => ?_) <;> conv => whnf) | exact (rfl : (_ : Value) = _) | (simp only [*]; exact (rfl : (_ : Value) = _)) | (simp [*]; done))

theorem c_impl_Spot_less {a b c x y z : Int}  : Pure Tryz.prog n_impl_Spot_less [v3 a b c, v3 x y z] (v3 (plusF a (-1) x) (plusF b (-1) y) (plusF c (-1) z)) := by
  refine pure_of good fn_impl_Spot_less rfl rfl ?_
  conv => whnf
  all_goals (repeat' first | (refine StoreK.mk rfl ?_; conv => whnf) | exact join_same | exact (by assumption : (_ : Bool) = (_ : Bool)) | (refine br_true (by assumption) ?_; conv => whnf) | (refine br_false (by assumption) ?_; conv => whnf) | (refine br_not ?_; conv => whnf) | (refine br_code ?_; conv => whnf) | (with_reducible refine br_and ?_; conv => whnf) | (with_reducible refine br_or ?_; conv => whnf) | (refine br_eq2 ?_; conv => whnf) | (refine c_impl_Spot_plus.call ?_; conv => whnf) | (refine c_impl_Spot_plus.quiet ?_; conv => whnf) | (refine draw_auto (by decide +kernel) ?_; conv => whnf) | (refine draw_asg (by decide +kernel) ?_; conv => whnf) | (refine draw_st (by decide +kernel) ?_; conv => whnf) | (refine draw_call (by decide +kernel) ?_; conv => whnf) | (refine enter_same (loop_n 12 ?_); conv => whnf) | (refine next_same ?_; conv => whnf) | (refine mapK_row (by assumption) ?_; conv => whnf) | (refine mapK_plain (Plain.of rfl) ?_; conv => whnf) | (refine mapK_lit ?_; conv => whnf) | (refine br_split (fun _ => ?_) (fun _ => ?_) <;> conv => whnf) | exact (rfl : (_ : Value) = _) | (simp only [*]; exact (rfl : (_ : Value) = _)) | (simp [*]; done))

end Go.Proofs.YtndmkibdcfpddaaGreat
end

section
/-
  The box of a cone: two walks over whole points, one by the points, one by their coordinates. The plain law.
  Conditions: none.
-/
set_option linter.unusedVariables false
set_option linter.unusedSimpArgs false
namespace Go.Ev

abbrev S3 := Int × Int × Int
structure Cn where
  (a b c d e f g h i : Int)
def add3 (x y : S3) : S3 := (x.1 + y.1, x.2.1 + y.2.1, x.2.2 + y.2.2)
def mul3 (m : Int) (x : S3) : S3 := (m * x.1, m * x.2.1, m * x.2.2)
def mod3 (d : Int) (x : S3) : S3 := (x.1 % d, x.2.1 % d, x.2.2 % d)
def unit3 : Nat → S3
  | 0 => (1, 0, 0)
  | 1 => (0, 1, 0)
  | _ => (0, 0, 1)
namespace Cn
def vol (k : Cn) : Int := volP k.a k.b k.c k.d k.e k.f k.g k.h k.i
def sg (k : Cn) : Int := if k.vol < 0 then -1 else 1
def D (k : Cn) : Int := k.sg * k.vol
def own (k : Cn) (x : S3) : S3 := (k.sg * volP x.1 x.2.1 x.2.2 k.d k.e k.f k.g k.h k.i, k.sg * volP k.a k.b k.c x.1 x.2.1 x.2.2 k.g k.h k.i, k.sg * volP k.a k.b k.c k.d k.e k.f x.1 x.2.1 x.2.2)
def sum (k : Cn) (m : S3) : S3 := (m.1 * k.a + m.2.1 * k.d + m.2.2 * k.g, m.1 * k.b + m.2.1 * k.e + m.2.2 * k.h, m.1 * k.c + m.2.1 * k.f + m.2.2 * k.i)
def fold (k : Cn) (x : S3) : S3 := add3 x (k.sum (-((k.own x).1 / k.D), -((k.own x).2.1 / k.D), -((k.own x).2.2 / k.D)))
def nxS (k : Cn) (x : S3) (j : Nat) : S3 := k.fold (add3 x (unit3 j))
def nxI (k : Cn) (o : S3) (j : Nat) : S3 := mod3 k.D (add3 o (k.own (unit3 j)))
structure Ok (k : Cn) : Prop where
  ba : -20 ≤ k.a ∧ k.a ≤ 20
  bb : -20 ≤ k.b ∧ k.b ≤ 20
  bc : -20 ≤ k.c ∧ k.c ≤ 20
  bd : -20 ≤ k.d ∧ k.d ≤ 20
  be : -20 ≤ k.e ∧ k.e ≤ 20
  bf : -20 ≤ k.f ∧ k.f ≤ 20
  bg : -20 ≤ k.g ∧ k.g ≤ 20
  bh : -20 ≤ k.h ∧ k.h ≤ 20
  bi : -20 ≤ k.i ∧ k.i ≤ 20
  nz : k.vol ≠ 0
  le : k.D ≤ 400
section
variable {k : Cn}
theorem sg_one (k : Cn) : k.sg = 1 ∨ k.sg = -1 := by unfold sg; split <;> simp
theorem D_pos (h : k.Ok) : 1 ≤ k.D := by
  have := h.nz
  unfold D sg
  split <;> omega
theorem own_add (k : Cn) (x y : S3) : k.own (add3 x y) = add3 (k.own x) (k.own y) := by
  simp only [own, add3, volP, Prod.mk.injEq]
  refine ⟨?_, ?_, ?_⟩ <;> grind
theorem own_sum (k : Cn) (m : S3) : k.own (k.sum m) = mul3 k.D m := by
  simp only [own, sum, mul3, D, vol, volP, Prod.mk.injEq]
  refine ⟨?_, ?_, ?_⟩ <;> grind
theorem sum_own (k : Cn) (x : S3) : k.sum (k.own x) = mul3 k.D x := by
  simp only [own, sum, mul3, D, vol, volP, Prod.mk.injEq]
  refine ⟨?_, ?_, ?_⟩ <;> grind
theorem own_inj (h : k.Ok) {x y : S3} (e : k.own x = k.own y) : x = y := by
  have hp := D_pos h
  have e2 := (k.sum_own x).symm.trans ((congrArg k.sum e).trans (k.sum_own y))
  simp only [mul3, Prod.mk.injEq] at e2
  obtain ⟨h1, h2, h3⟩ := e2
  have hn : k.D ≠ 0 := by omega
  exact Prod.ext (Int.eq_of_mul_eq_mul_left hn h1) (Prod.ext (Int.eq_of_mul_eq_mul_left hn h2) (Int.eq_of_mul_eq_mul_left hn h3))
theorem own_fold (k : Cn) (x : S3) : k.own (k.fold x) = mod3 k.D (k.own x) := by
  unfold fold
  rw [own_add, own_sum]
  simp only [add3, mul3, mod3, Prod.mk.injEq, Int.emod_def, Int.mul_neg]
  exact ⟨rfl, rfl, rfl⟩
theorem own_nx (k : Cn) (x : S3) (j : Nat) : k.own (k.nxS x j) = k.nxI (k.own x) j := by
  unfold nxS nxI
  rw [own_fold, own_add]
def Box (k : Cn) (o : S3) : Prop := (0 ≤ o.1 ∧ o.1 < k.D) ∧ (0 ≤ o.2.1 ∧ o.2.1 < k.D) ∧ (0 ≤ o.2.2 ∧ o.2.2 < k.D)
def BoxD (k : Cn) (o : S3) : Prop := (0 ≤ o.1 ∧ o.1 ≤ k.D) ∧ (0 ≤ o.2.1 ∧ o.2.1 ≤ k.D) ∧ (0 ≤ o.2.2 ∧ o.2.2 ≤ k.D)
theorem Box.le {o : S3} (h : k.Box o) : k.BoxD o := by
  obtain ⟨⟨a, b⟩, ⟨c, d⟩, ⟨e, f⟩⟩ := h
  exact ⟨⟨a, by omega⟩, ⟨c, by omega⟩, ⟨e, by omega⟩⟩
theorem box_mod (h : k.Ok) (o : S3) : k.Box (mod3 k.D o) := by
  have hp := D_pos h
  exact ⟨⟨Int.emod_nonneg _ (by omega), Int.emod_lt_of_pos _ (by omega)⟩, ⟨Int.emod_nonneg _ (by omega), Int.emod_lt_of_pos _ (by omega)⟩, ⟨Int.emod_nonneg _ (by omega), Int.emod_lt_of_pos _ (by omega)⟩⟩
theorem box_nx (h : k.Ok) (o : S3) (j : Nat) : k.Box (k.nxI o j) := box_mod h _
theorem box_zero (h : k.Ok) : k.Box (k.own (0, 0, 0)) := by
  have hp := D_pos h
  have : k.own (0, 0, 0) = (0, 0, 0) := by
    simp only [own, volP, Prod.mk.injEq]
    refine ⟨?_, ?_, ?_⟩ <;> grind
  rw [this]
  exact ⟨⟨by simp, by simpa using by omega⟩, ⟨by simp, by simpa using by omega⟩, ⟨by simp, by simpa using by omega⟩⟩
theorem own_zero (k : Cn) : k.own (0, 0, 0) = (0, 0, 0) := by
  simp only [own, volP, Prod.mk.injEq]
  refine ⟨?_, ?_, ?_⟩ <;> grind
end
end Cn

def put1 (L : List S3) (y : S3) : List S3 := if y ∈ L then L else L ++ [y]
def puts (nx : S3 → Nat → S3) (n : Nat) (L : List S3) : Nat → List S3
  | 0 => L
  | j + 1 => put1 (puts nx n L j) (nx ((puts nx n L j).getD n (0, 0, 0)) j)
def bfs (nx : S3 → Nat → S3) : Nat → Nat → List S3 → List S3
  | 0, _, L => L
  | t + 1, n, L => if n < L.length then bfs nx t (n + 1) (puts nx n L 3) else L
section
variable {nx nx' : S3 → Nat → S3} {own : S3 → S3}
theorem put1_map (hi : ∀ x y, own x = own y → x = y) (L : List S3) (y : S3) : put1 (L.map own) (own y) = (put1 L y).map own := by
  unfold put1
  by_cases h : y ∈ L
  · rw [if_pos h, if_pos (List.mem_map.2 ⟨y, h, rfl⟩)]
  · rw [if_neg h, if_neg (fun hm => by obtain ⟨z, hz, e⟩ := List.mem_map.1 hm; exact h (hi _ _ e ▸ hz)), List.map_append]; rfl
theorem put1_len (L : List S3) (y : S3) : L.length ≤ (put1 L y).length := by unfold put1; split <;> simp
theorem puts_len (nx : S3 → Nat → S3) (n : Nat) (L : List S3) : ∀ j, L.length ≤ (puts nx n L j).length
  | 0 => Nat.le_refl _
  | j + 1 => Nat.le_trans (puts_len nx n L j) (put1_len _ _)
theorem puts_map (hi : ∀ x y, own x = own y → x = y) (h : ∀ x j, own (nx x j) = nx' (own x) j) (n : Nat) (L : List S3) (hn : n < L.length) : ∀ j, puts nx' n (L.map own) j = (puts nx n L j).map own
  | 0 => rfl
  | j + 1 => by
    have hl := Nat.lt_of_lt_of_le hn (puts_len nx n L j)
    rw [puts, puts, puts_map hi h n L hn j, ← put1_map hi, h]
    congr 2
    simp [List.getD, List.getElem?_map, List.getElem?_eq_getElem hl]
theorem bfs_map (hi : ∀ x y, own x = own y → x = y) (h : ∀ x j, own (nx x j) = nx' (own x) j) : ∀ (t n : Nat) (L : List S3), bfs nx' t n (L.map own) = (bfs nx t n L).map own
  | 0, _, _ => rfl
  | t + 1, n, L => by
    rw [bfs, bfs, List.length_map]
    split
    · rename_i hn
      rw [puts_map hi h n L hn, bfs_map hi h t]
    · rfl
end
structure BoxL (k : Cn) (L : List S3) : Prop where
  nd : L.Nodup
  box : ∀ x ∈ L, k.Box (k.own x)
theorem nodup_le : ∀ (n : Nat) (l : List Nat), l.Nodup → (∀ x ∈ l, x < n) → l.length ≤ n
  | 0, [], _, _ => Nat.le_refl _
  | 0, x :: l, _, h => absurd (h x (List.mem_cons_self ..)) (by omega)
  | n + 1, l, hd, h => by
    have h1 := nodup_le n (l.filter (· != n)) (hd.filter _) (fun x hx => by
      have hx := List.mem_filter.1 hx
      have := h x hx.1
      have : x ≠ n := by simpa using hx.2
      omega)
    have h2 : l.length ≤ (l.filter (· != n)).length + 1 := by
      clear h1 h
      induction l with
      | nil => simp
      | cons x l ih =>
        rw [List.nodup_cons] at hd
        by_cases hx : x = n
        · subst hx
          have : l.filter (· != x) = l := List.filter_eq_self.2 fun y hy => by
            have : y ≠ x := fun e => hd.1 (e ▸ hy)
            simpa using this
          simp [this]
        · have := ih hd.2
          simp [hx]; omega
    omega
def code3 (d : Nat) (x : S3) : Nat := (x.1.toNat * d + x.2.1.toNat) * d + x.2.2.toNat
theorem code_lt {d a b : Nat} (hb : b < d) {n : Nat} (ha : a < n) : a * d + b < n * d := by
  have : (a + 1) * d ≤ n * d := Nat.mul_le_mul_right d (by omega)
  rw [Nat.add_mul] at this; omega
theorem code_inj {d a b a' b' : Nat} (hb : b < d) (hb' : b' < d) (e : a * d + b = a' * d + b') : a = a' ∧ b = b' := by
  have h1 : (a * d + b) / d = a := by rw [Nat.mul_comm, Nat.mul_add_div (by omega), Nat.div_eq_of_lt hb]; omega
  have h2 : (a' * d + b') / d = a' := by rw [Nat.mul_comm, Nat.mul_add_div (by omega), Nat.div_eq_of_lt hb']; omega
  have : a = a' := by rw [← h1, ← h2, e]
  subst this
  exact ⟨rfl, by omega⟩
section
variable {k : Cn} {L : List S3}
theorem BoxL.len (h : BoxL k L) (hk : k.Ok) : L.length ≤ 64000000 := by
  have hp := Cn.D_pos hk
  have hl := hk.le
  obtain ⟨d, hd⟩ : ∃ d : Nat, k.D = d := ⟨k.D.toNat, by omega⟩
  have hn : (L.map fun x => code3 d (k.own x)).Nodup := by
    rw [List.Nodup, List.pairwise_map]
    refine (List.Pairwise.and_mem.1 h.nd).imp ?_
    rintro x y ⟨hx, hy, hne⟩ he
    have bx := h.box x hx
    have by_ := h.box y hy
    unfold Cn.Box at bx by_
    rw [hd] at bx by_
    unfold code3 at he
    obtain ⟨e1, e2⟩ := code_inj (by omega) (by omega) he
    obtain ⟨e3, e4⟩ := code_inj (by omega) (by omega) e1
    exact hne (Cn.own_inj hk (Prod.ext (by omega) (Prod.ext (by omega) (by omega))))
  have := nodup_le (d * d * d) _ hn (fun z hz => by
    obtain ⟨x, hx, rfl⟩ := List.mem_map.1 hz
    have bx := h.box x hx
    unfold Cn.Box at bx
    rw [hd] at bx
    exact code_lt (by omega) (code_lt (by omega) (by omega)))
  rw [List.length_map] at this
  have hd4 : d ≤ 400 := by omega
  have : d * d * d ≤ 400 * 400 * 400 := Nat.mul_le_mul (Nat.mul_le_mul hd4 hd4) hd4
  omega
theorem BoxL.put (h : BoxL k L) (hk : k.Ok) (y : S3) (j : Nat) : BoxL k (put1 L (k.nxS y j)) := by
  unfold put1
  split
  · exact h
  · rename_i hm
    refine ⟨List.nodup_append.2 ⟨h.nd, by simp, fun a ha b hb e => ?_⟩, fun x hx => ?_⟩
    · rw [List.mem_singleton] at hb
      exact hm (by rw [← hb, ← e]; exact ha)
    · rcases List.mem_append.1 hx with hx | hx
      · exact h.box x hx
      · rw [List.mem_singleton] at hx
        rw [hx, Cn.own_nx]
        exact Cn.box_nx hk _ _
theorem BoxL.puts (h : BoxL k L) (hk : k.Ok) (n : Nat) : ∀ j, BoxL k (puts k.nxS n L j)
  | 0 => h
  | j + 1 => (BoxL.puts h hk n j).put hk _ _
theorem BoxL.start (hk : k.Ok) : BoxL k [(0, 0, 0)] := ⟨by simp, fun x hx => by rw [List.mem_singleton] at hx; rw [hx]; exact Cn.box_zero hk⟩
theorem BoxL.bfs (hk : k.Ok) : ∀ (t n : Nat) {L : List S3}, BoxL k L → BoxL k (bfs k.nxS t n L)
  | 0, _, _, h => h
  | t + 1, n, L, h => by
    rw [Go.Ev.bfs]
    split
    · exact BoxL.bfs hk t _ (h.puts hk n 3)
    · exact h
theorem box_smallD (hk : k.Ok) {x : S3} (h : k.BoxD (k.own x)) : (-60 ≤ x.1 ∧ x.1 ≤ 60) ∧ (-60 ≤ x.2.1 ∧ x.2.1 ≤ 60) ∧ (-60 ≤ x.2.2 ∧ x.2.2 ≤ 60) := by
  have hp := Cn.D_pos hk
  have e := k.sum_own x
  obtain ⟨b1, b2, b3⟩ := h
  simp only [Cn.sum, mul3, Prod.mk.injEq] at e
  obtain ⟨e1, e2, e3⟩ := e
  have key : ∀ {p q r u v w t : Int}, (0 ≤ p ∧ p ≤ k.D) → (0 ≤ q ∧ q ≤ k.D) → (0 ≤ r ∧ r ≤ k.D) → (-20 ≤ u ∧ u ≤ 20) → (-20 ≤ v ∧ v ≤ 20) → (-20 ≤ w ∧ w ≤ 20) → p * u + q * v + r * w = k.D * t → -60 ≤ t ∧ t ≤ 60 := by
    intro p q r u v w t hp1 hq1 hr1 hu hv hw he
    have m : ∀ {s z : Int}, (0 ≤ s ∧ s ≤ k.D) → (-20 ≤ z ∧ z ≤ 20) → -(20 * k.D) ≤ s * z ∧ s * z ≤ 20 * k.D := by
      intro s z hs hz
      have l1 : s * z ≤ s * 20 := Int.mul_le_mul_of_nonneg_left hz.2 hs.1
      have l2 : s * (-20) ≤ s * z := Int.mul_le_mul_of_nonneg_left hz.1 hs.1
      omega
    have m1 := m hp1 hu
    have m2 := m hq1 hv
    have m3 := m hr1 hw
    constructor
    · refine Int.le_of_mul_le_mul_left (a := k.D) ?_ (by omega)
      omega
    · refine Int.le_of_mul_le_mul_left (a := k.D) ?_ (by omega)
      omega
  exact ⟨key b1 b2 b3 hk.ba hk.bd hk.bg e1, key b1 b2 b3 hk.bb hk.be hk.bh e2, key b1 b2 b3 hk.bc hk.bf hk.bi e3⟩
theorem box_small (hk : k.Ok) {x : S3} (h : k.Box (k.own x)) : (-60 ≤ x.1 ∧ x.1 ≤ 60) ∧ (-60 ≤ x.2.1 ∧ x.2.1 ≤ 60) ∧ (-60 ≤ x.2.2 ∧ x.2.2 ≤ 60) := box_smallD hk h.le
end

def lt3 (x y : S3) : Bool := if x.1 = y.1 then (if x.2.1 = y.2.1 then decide (x.2.2 < y.2.2) else decide (x.2.1 < y.2.1)) else decide (x.1 < y.1)
theorem lt3_irr (x : S3) : lt3 x x = false := by simp [lt3]
theorem lt3_iff {x y : S3} : lt3 x y = true ↔ x.1 < y.1 ∨ (x.1 = y.1 ∧ (x.2.1 < y.2.1 ∨ (x.2.1 = y.2.1 ∧ x.2.2 < y.2.2))) := by
  unfold lt3
  split
  · split <;> simp <;> omega
  · simp; omega
theorem lt3_trans {x y z : S3} (h1 : lt3 x y = true) (h2 : lt3 y z = true) : lt3 x z = true := by
  rw [lt3_iff] at *; omega
theorem lt3_total {x y : S3} (h1 : lt3 x y = false) (h2 : lt3 y x = false) : x = y := by
  have a1 : ¬ lt3 x y = true := by simp [h1]
  have a2 : ¬ lt3 y x = true := by simp [h2]
  rw [lt3_iff] at a1 a2
  exact Prod.ext (by omega) (Prod.ext (by omega) (by omega))
def Asc (l : List S3) : Prop := l.Pairwise fun x y => lt3 x y = true
def atS (y : S3) : List S3 → Nat
  | [] => 0
  | x :: l => if lt3 x y = true then atS y l + 1 else 0
def insS (l : List S3) (y : S3) : List S3 := if y ∈ l then l else l.take (atS y l) ++ [y] ++ l.drop (atS y l)
theorem atS_le (y : S3) : ∀ l : List S3, atS y l ≤ l.length
  | [] => Nat.le_refl _
  | x :: l => by
    unfold atS
    split
    · have := atS_le y l; simp; omega
    · simp
theorem asc_take {y : S3} : ∀ {l : List S3}, Asc l → ∀ x ∈ l.take (atS y l), lt3 x y = true
  | [], _, x, hx => by simp [atS] at hx
  | z :: l, h, x, hx => by
    unfold atS at hx
    split at hx
    · rename_i hz
      rw [List.take_succ_cons] at hx
      rcases List.mem_cons.1 hx with rfl | hx
      · exact hz
      · exact asc_take (List.pairwise_cons.1 h).2 x hx
    · simp at hx
theorem asc_drop {y : S3} : ∀ {l : List S3}, Asc l → ∀ x ∈ l.drop (atS y l), x = y ∨ lt3 y x = true
  | [], _, x, hx => by simp [atS] at hx
  | z :: l, h, x, hx => by
    unfold atS at hx
    split at hx
    · rw [List.drop_succ_cons] at hx
      exact asc_drop (List.pairwise_cons.1 h).2 x hx
    · rename_i hz
      rw [List.drop_zero] at hx
      have hzy : z = y ∨ lt3 y z = true := by
        cases h2 : lt3 y z
        · exact .inl (lt3_total (by simpa using hz) h2)
        · exact .inr rfl
      rcases List.mem_cons.1 hx with rfl | hx
      · exact hzy
      · have := (List.pairwise_cons.1 h).1 x hx
        rcases hzy with rfl | hzy
        · exact .inr this
        · exact .inr (lt3_trans hzy this)
theorem atS_mem {y : S3} {l : List S3} (h : Asc l) : y ∈ l ↔ (atS y l < l.length ∧ l.getD (atS y l) (0, 0, 0) = y) := by
  constructor
  · intro hy
    rw [← List.take_append_drop (atS y l) l] at hy
    rcases List.mem_append.1 hy with hy | hy
    · have := asc_take h y hy
      rw [lt3_irr] at this; cases this
    · have hlt : atS y l < l.length := by
        have : 0 < (l.drop (atS y l)).length := List.length_pos_of_mem hy
        rw [List.length_drop] at this; omega
      refine ⟨hlt, ?_⟩
      have e := List.drop_eq_getElem_cons hlt
      have hg : l.getD (atS y l) (0, 0, 0) = l[atS y l] := by simp [List.getD, List.getElem?_eq_getElem hlt]
      rw [hg]
      rw [e] at hy
      rcases List.mem_cons.1 hy with hy | hy
      · exact hy.symm
      · have h1 := asc_drop (y := y) h l[atS y l] (by rw [e]; exact List.mem_cons_self ..)
        have hd : Asc (l.drop (atS y l)) := List.Pairwise.sublist (List.drop_sublist ..) h
        rw [e] at hd
        have h2 := (List.pairwise_cons.1 hd).1 y hy
        rcases h1 with h1 | h1
        · exact h1
        · have := lt3_trans h1 h2
          rw [lt3_irr] at this; cases this
  · rintro ⟨h1, h2⟩
    rw [← h2]
    have hg : l.getD (atS y l) (0, 0, 0) = l[atS y l] := by simp [List.getD, List.getElem?_eq_getElem h1]
    rw [hg]
    exact List.getElem_mem h1
theorem insS_asc {l : List S3} (h : Asc l) (y : S3) : Asc (insS l y) := by
  unfold insS
  split
  · exact h
  · rename_i hm
    have h0 : Asc (l.take (atS y l) ++ l.drop (atS y l)) := by rw [List.take_append_drop]; exact h
    obtain ⟨p1, p2, p3⟩ := List.pairwise_append.1 h0
    have a1 := asc_take (y := y) h
    have a2 := asc_drop (y := y) h
    have a3 : ∀ x ∈ l.drop (atS y l), lt3 y x = true := fun x hx => by
      rcases a2 x hx with rfl | e
      · exact absurd (List.mem_of_mem_drop hx) hm
      · exact e
    refine List.pairwise_append.2 ⟨List.pairwise_append.2 ⟨p1, by simp, fun x hx z hz => ?_⟩, p2, fun x hx z hz => ?_⟩
    · rw [List.mem_singleton] at hz; rw [hz]; exact a1 x hx
    · rcases List.mem_append.1 hx with hx | hx
      · exact p3 x hx z hz
      · rw [List.mem_singleton] at hx; rw [hx]; exact a3 z hz
theorem insS_mem {l : List S3} {y x : S3} : x ∈ insS l y ↔ x ∈ l ∨ x = y := by
  unfold insS
  split
  · rename_i hm
    constructor
    · exact .inl
    · rintro (h | rfl)
      · exact h
      · exact hm
  · have e : x ∈ l ↔ x ∈ l.take (atS y l) ∨ x ∈ l.drop (atS y l) := by rw [← List.mem_append, List.take_append_drop]
    rw [e]
    simp only [List.mem_append, List.mem_singleton]
    constructor
    · rintro ((h | h) | h)
      · exact .inl (.inl h)
      · exact .inr h
      · exact .inl (.inr h)
    · rintro ((h | h) | h)
      · exact .inl (.inl h)
      · exact .inr h
      · exact .inl (.inr h)
theorem insS_len {l : List S3} {y : S3} : decide ((insS l y).length > l.length) = !decide (y ∈ l) := by
  unfold insS
  split
  · rename_i h; simp [h]
  · rename_i h
    have := atS_le y l
    simp only [List.length_append, List.length_take, List.length_drop, List.length_singleton]
    simp [h]; omega
theorem asc_uniq : ∀ {l m : List S3}, Asc l → Asc m → (∀ x, x ∈ l ↔ x ∈ m) → l = m
  | [], [], _, _, _ => rfl
  | [], y :: m, _, _, h => by have := (h y).2 (List.mem_cons_self ..); cases this
  | x :: l, [], _, _, h => by have := (h x).1 (List.mem_cons_self ..); cases this
  | x :: l, y :: m, h1, h2, h => by
    obtain ⟨a1, a2⟩ := List.pairwise_cons.1 h1
    obtain ⟨b1, b2⟩ := List.pairwise_cons.1 h2
    have hxy : x = y := by
      rcases List.mem_cons.1 ((h x).1 (List.mem_cons_self ..)) with e | hx
      · exact e
      · rcases List.mem_cons.1 ((h y).2 (List.mem_cons_self ..)) with e | hy
        · exact e.symm
        · have := lt3_trans (a1 y hy) (b1 x hx)
          rw [lt3_irr] at this; cases this
    subst hxy
    congr 1
    refine asc_uniq a2 b2 fun z => ?_
    constructor
    · intro hz
      rcases List.mem_cons.1 ((h z).1 (List.mem_cons_of_mem _ hz)) with e | hz'
      · subst e; have := a1 z hz; rw [lt3_irr] at this; cases this
      · exact hz'
    · intro hz
      rcases List.mem_cons.1 ((h z).2 (List.mem_cons_of_mem _ hz)) with e | hz'
      · subst e; have := b1 z hz; rw [lt3_irr] at this; cases this
      · exact hz'
end Go.Ev
end

section
/-
  Rows of spots: reading, marking. 
  Conditions: none.
-/
set_option linter.unusedVariables false
set_option linter.unusedSimpArgs false
namespace Go.Ev
open Go.RowKit

def sl (ps : List S3) : List Value := ps.flatMap fun p => [iv p.1, iv p.2.1, iv p.2.2]
theorem sl_nil : sl [] = [] := rfl
theorem sl_cons (p : S3) (ps : List S3) : sl (p :: ps) = iv p.1 :: iv p.2.1 :: iv p.2.2 :: sl ps := rfl
theorem sl_app (ps qs : List S3) : sl (ps ++ qs) = sl ps ++ sl qs := by simp [sl]
theorem sl_snoc (ps : List S3) (q : S3) : sl (ps ++ [q]) = sl ps ++ [iv q.1, iv q.2.1, iv q.2.2] := by simp [sl]
theorem sl_len : ∀ (ps : List S3), (sl ps).length = ps.length * 3
  | [] => rfl
  | p :: ps => by rw [sl_cons]; simp only [List.length_cons, sl_len ps]; omega
theorem sl_plain : ∀ (ps : List S3), Plain (sl ps)
  | [], v, hv => by cases hv
  | p :: ps, v, hv => by
    rw [sl_cons] at hv
    rcases List.mem_cons.1 hv with rfl | hv
    · rfl
    · rcases List.mem_cons.1 hv with rfl | hv
      · rfl
      · rcases List.mem_cons.1 hv with rfl | hv
        · rfl
        · exact sl_plain ps v hv
theorem row_sl {ps : List S3} {n c : Nat} {sp : List Value} (h : Row (sl ps) sp n c 3) : ps.length = n := by have := h.len; rw [sl_len] at this; omega
theorem sl_at : ∀ (ps : List S3) (i : Nat) (sp : List Value), i < ps.length → List.drop (i * 3) (sl ps ++ sp) = iv (ps.getD i (0, 0, 0)).1 :: iv (ps.getD i (0, 0, 0)).2.1 :: iv (ps.getD i (0, 0, 0)).2.2 :: (sl (ps.drop (i + 1)) ++ sp)
  | [], i, sp, h => by simp at h
  | p :: ps, 0, sp, h => by simp [sl_cons, List.getD]
  | p :: ps, i + 1, sp, h => by
    have := sl_at ps i sp (by simpa using h)
    rw [show (i + 1) * 3 = i * 3 + 3 by omega, sl_cons]
    simpa [List.getD] using this
theorem take_sp {ps : List S3} {sp : List Value} {off i : Nat} (ho : off = i * 3) (hi : i < ps.length) :
    List.take 3 (List.drop off (sl ps ++ sp)) = [iv (ps.getD i (0, 0, 0)).1, iv (ps.getD i (0, 0, 0)).2.1, iv (ps.getD i (0, 0, 0)).2.2] := by
  subst ho
  rw [sl_at ps i sp hi]
  rfl
theorem take_sp0 {ps : List S3} {sp : List Value} {off i : Nat} (ho : off = i * 3) (hi : i < ps.length) :
    List.take 1 (List.drop off (sl ps ++ sp)) = [iv (ps.getD i (0, 0, 0)).1] := by
  subst ho
  rw [sl_at ps i sp hi]
  rfl
theorem take_sp1 {ps : List S3} {sp : List Value} {off i : Nat} (ho : off = i * 3 + 1) (hi : i < ps.length) :
    List.take 1 (List.drop off (sl ps ++ sp)) = [iv (ps.getD i (0, 0, 0)).2.1] := by
  subst ho
  rw [← List.drop_drop, sl_at ps i sp hi]
  rfl
theorem take_sp2 {ps : List S3} {sp : List Value} {off i : Nat} (ho : off = i * 3 + 2) (hi : i < ps.length) :
    List.take 1 (List.drop off (sl ps ++ sp)) = [iv (ps.getD i (0, 0, 0)).2.2] := by
  subst ho
  rw [← List.drop_drop, sl_at ps i sp hi]
  rfl
theorem MarkI.next3 {k : Int} {n c : Nat} {i q q2 q3 : Int} {C : List Value} {o o2 o3 : Nat} (h : MarkI k n c 3 i q C) (hnc : n ≤ c) (hi : i < (n : Int)) (hn : n ≤ 1000000000) (hk : 0 ≤ k ∧ k ≤ 1000000000) (ho : o = i.toNat * 3) (ho2 : o2 = i.toNat * 3 + 1) (ho3 : o3 = i.toNat * 3 + 2) (hq : q2 = w64 (q + 1)) (hq3 : q3 = w64 (q2 + 1)) :
    MarkI k n c 3 (w64 (i + 1)) (w64 (q3 + 1)) (((C.set o (iv q)).set o2 (iv q2)).set o3 (iv q3)) := by
  have h1 := h.lo; have h2 := h.q; have h3 := h.len; have h4 := h.mrk
  have e1 : w64 (i + 1) = i + 1 := w64_in (by omega) (by omega)
  have e2 : w64 (q + 1) = q + 1 := w64_in (by omega) (by omega)
  subst hq
  have e3 : w64 (w64 (q + 1) + 1) = q + 2 := by rw [e2, w64_in (by omega) (by omega)]; omega
  subst hq3
  rw [e3, e1, e2, w64_in (by omega) (by omega)]
  refine ⟨by omega, by omega, by omega, by rw [List.length_set, List.length_set, List.length_set]; exact h3, ((h.pl.set rfl _).set rfl _).set rfl _, ?_⟩
  have e4 : 3 * (i + 1).toNat = 3 * i.toNat + 1 + 1 + 1 := by omega
  rw [e4]
  refine mark_set (mark_set (mark_set h4 (by omega) (by omega) (by rw [h2]; congr 1; omega)) (by omega) (by rw [List.length_set]; omega) (by rw [h2]; congr 1; omega)) (by omega) (by rw [List.length_set, List.length_set]; omega) (by rw [h2]; congr 1; omega)
theorem held_next3 {k i q : Int} {n : Nat} (h : 0 ≤ i ∧ i ≤ (n : Int) ∧ q = k + 3 * i) (hi : i < (n : Int)) (hn : n ≤ 1000000000) (hk : 0 ≤ k ∧ k ≤ 1000000000) :
    0 ≤ w64 (i + 1) ∧ w64 (i + 1) ≤ (n : Int) ∧ w64 (w64 (w64 (q + 1) + 1) + 1) = k + 3 * w64 (i + 1) := by
  rw [w64_in (n := i + 1) (by omega) (by omega), w64_in (n := q + 1) (by omega) (by omega), w64_in (n := q + 1 + 1) (by omega) (by omega), w64_in (by omega) (by omega)]; omega
end Go.Ev
end

section
/-
  The program's functions on cones are the plain ones, where the numbers are small.
  Conditions: as each theorem states.
-/
set_option linter.unusedVariables false
set_option linter.unusedSimpArgs false
namespace Go.Ev

theorem volP_rot1 (a b c x y z g h i : Int) : volP a b c x y z g h i = volP x y z g h i a b c := by unfold volP; grind
theorem volP_rot2 (a b c d e f x y z : Int) : volP a b c d e f x y z = volP x y z a b c d e f := by unfold volP; grind
def sm20 (x : Int) : Prop := -20 ≤ x ∧ x ≤ 20
structure Sm3 (p : S3) : Prop where
  x : -200 ≤ p.1 ∧ p.1 ≤ 200
  y : -200 ≤ p.2.1 ∧ p.2.1 ≤ 200
  z : -200 ≤ p.2.2 ∧ p.2.2 ≤ 200
theorem cr_bd {p q r s : Int} (hp : sm20 p) (hq : sm20 q) (hr : sm20 r) (hs : sm20 s) : -800 ≤ p * q - r * s ∧ p * q - r * s ≤ 800 := by
  have h1 := mul_abs (x := p) (y := q) (m := 20) (n := 20) hp.1 hp.2 hq.1 hq.2 (by omega)
  have h2 := mul_abs (x := r) (y := s) (m := 20) (n := 20) hr.1 hr.2 hs.1 hs.2 (by omega)
  omega
theorem volP_bd {x : S3} (hx : Sm3 x) {d e f g h i : Int} (hd : sm20 d) (he : sm20 e) (hf : sm20 f) (hg : sm20 g) (hh : sm20 h) (hi : sm20 i) : -480000 ≤ volP x.1 x.2.1 x.2.2 d e f g h i ∧ volP x.1 x.2.1 x.2.2 d e f g h i ≤ 480000 := by
  have c1 := cr_bd he hi hf hh
  have c2 := cr_bd hf hg hd hi
  have c3 := cr_bd hd hh he hg
  have m1 := mul_abs (x := x.1) (y := e * i - f * h) (m := 200) (n := 800) hx.x.1 hx.x.2 c1.1 c1.2 (by omega)
  have m2 := mul_abs (x := x.2.1) (y := f * g - d * i) (m := 200) (n := 800) hx.y.1 hx.y.2 c2.1 c2.2 (by omega)
  have m3 := mul_abs (x := x.2.2) (y := d * h - e * g) (m := 200) (n := 800) hx.z.1 hx.z.2 c3.1 c3.2 (by omega)
  unfold volP
  omega
section
variable {k : Cn}
theorem Cn.Ok.r0 (h : k.Ok) : Sm3 (k.a, k.b, k.c) := ⟨by have := h.ba; simp only; omega, by have := h.bb; simp only; omega, by have := h.bc; simp only; omega⟩
theorem Cn.vol_bd (h : k.Ok) : -480000 ≤ k.vol ∧ k.vol ≤ 480000 := volP_bd h.r0 h.bd h.be h.bf h.bg h.bh h.bi
theorem Cn.vol_F (h : k.Ok) : volF k.a k.b k.c k.d k.e k.f k.g k.h k.i = k.vol := by
  have := Cn.vol_bd h
  rw [volF_eq]
  exact w64_in (by show _ ≤ k.vol; omega) (by show k.vol ≤ _; omega)
theorem Cn.sg_F (h : k.Ok) : sgF (volF k.a k.b k.c k.d k.e k.f k.g k.h k.i) = k.sg := by
  rw [Cn.vol_F h]
  unfold sgF Cn.sg selF
  by_cases hv : k.vol < 0
  · simp [hv]
  · simp [hv]
theorem Cn.size_F (h : k.Ok) : sizeF (volF k.a k.b k.c k.d k.e k.f k.g k.h k.i) = k.D := by
  have hb := Cn.vol_bd h
  rw [Cn.vol_F h]
  unfold sizeF maxi Cn.D Cn.sg
  rw [w64_in (n := 0 - k.vol) (by omega) (by omega)]
  split <;> split <;> omega
theorem sg_mul {s v : Int} (hs : s = 1 ∨ s = -1) (hv : -480000 ≤ v ∧ v ≤ 480000) : -480000 ≤ s * v ∧ s * v ≤ 480000 := by
  rcases hs with rfl | rfl <;> omega
theorem Cn.own_bd (h : k.Ok) {x : S3} (hx : Sm3 x) : (-480000 ≤ (k.own x).1 ∧ (k.own x).1 ≤ 480000) ∧ (-480000 ≤ (k.own x).2.1 ∧ (k.own x).2.1 ≤ 480000) ∧ (-480000 ≤ (k.own x).2.2 ∧ (k.own x).2.2 ≤ 480000) := by
  have hs := Cn.sg_one k
  refine ⟨sg_mul hs (volP_bd hx h.bd h.be h.bf h.bg h.bh h.bi), sg_mul hs ?_, sg_mul hs ?_⟩
  · rw [volP_rot1]; exact volP_bd hx h.bg h.bh h.bi h.ba h.bb h.bc
  · rw [volP_rot2]; exact volP_bd hx h.ba h.bb h.bc h.bd h.be h.bf
theorem vol_in {a b c d e f g h i : Int} (hv : -480000 ≤ volP a b c d e f g h i ∧ volP a b c d e f g h i ≤ 480000) : volF a b c d e f g h i = volP a b c d e f g h i := by
  rw [volF_eq]; exact w64_in (by omega) (by omega)
theorem Cn.co_own (h : k.Ok) {x : S3} (hx : Sm3 x) : co0 k.a k.b k.c k.d k.e k.f k.g k.h k.i x.1 x.2.1 x.2.2 = (k.own x).1 ∧ co1 k.a k.b k.c k.d k.e k.f k.g k.h k.i x.1 x.2.1 x.2.2 = (k.own x).2.1 ∧ co2 k.a k.b k.c k.d k.e k.f k.g k.h k.i x.1 x.2.1 x.2.2 = (k.own x).2.2 := by
  have hb := Cn.own_bd h hx
  have v0 := volP_bd hx h.bd h.be h.bf h.bg h.bh h.bi
  have v1 := volP_bd hx h.bg h.bh h.bi h.ba h.bb h.bc
  have v2 := volP_bd hx h.ba h.bb h.bc h.bd h.be h.bf
  rw [← volP_rot1] at v1
  rw [← volP_rot2] at v2
  unfold co0 co1 co2
  rw [Cn.sg_F h, vol_in v0, vol_in v1, vol_in v2]
  exact ⟨w64_in (by show _ ≤ (k.own x).1; omega) (by show (k.own x).1 ≤ _; omega), w64_in (by show _ ≤ (k.own x).2.1; omega) (by show (k.own x).2.1 ≤ _; omega), w64_in (by show _ ≤ (k.own x).2.2; omega) (by show (k.own x).2.2 ≤ _; omega)⟩
theorem plus_in {a k c : Int} (h1 : -4000000000000 ≤ k * c ∧ k * c ≤ 4000000000000) (h2 : -4000000000000 ≤ a ∧ a ≤ 4000000000000) : plusF a k c = a + k * c := by
  unfold plusF
  rw [w64_in (n := k * c) (by omega) (by omega), w64_in (by omega) (by omega)]
theorem Cn.D_le (h : k.Ok) : 1 ≤ k.D ∧ k.D ≤ 400 := ⟨Cn.D_pos h, h.le⟩
theorem div_bd {a d : Int} (hd : 1 ≤ d) (ha : -480000 ≤ a ∧ a ≤ 480000) : -480000 ≤ a / d ∧ a / d ≤ 480000 := by
  have e := Int.emod_add_mul_ediv a d
  have n0 := Int.emod_nonneg a (b := d) (by omega)
  have n1 := Int.emod_lt_of_pos a (b := d) (by omega)
  constructor
  · refine Int.le_of_mul_le_mul_left (a := d) ?_ (by omega)
    have : d * -480000 ≤ a - a % d := by
      by_cases h : 0 ≤ a
      · have : d * -480000 ≤ 0 := by omega
        have : 0 ≤ a / d := Int.ediv_nonneg h (by omega)
        have := Int.mul_nonneg (show 0 ≤ d by omega) this
        omega
      · rcases Int.lt_or_le d 2 with hd2 | hd2
        · have : d = 1 := by omega
          subst this; omega
        · omega
    omega
  · refine Int.le_of_mul_le_mul_left (a := d) ?_ (by omega)
    by_cases h : 0 ≤ a
    · have : a * 1 ≤ a * d := Int.mul_le_mul_of_nonneg_left hd h
      have : 480000 * 1 ≤ 480000 * d := Int.mul_le_mul_of_nonneg_left hd (by omega)
      omega
    · omega
end
end Go.Ev
end

section
/-
  The box of a cone: what the reference's loops keep.
  Conditions: none.
-/
set_option linter.unusedVariables false
set_option linter.unusedSimpArgs false
namespace Go.Ev
open Go.RowKit

theorem bef0 {a b c x y z : Int} (h : decide (a = x) = false) : decide (a < x) = lt3 (a, b, c) (x, y, z) := by
  have := of_decide_eq_false h
  simp [lt3, this]
theorem bef1 {a b c x y z : Int} (h : decide (a = x) = true) (h2 : decide (b = y) = false) : decide (b < y) = lt3 (a, b, c) (x, y, z) := by
  have := of_decide_eq_true h
  have := of_decide_eq_false h2
  simp [lt3, *]
theorem bef2 {a b c x y z : Int} (h : decide (a = x) = true) (h2 : decide (b = y) = true) (h3 : decide (c = z) = false) : decide (c < z) = lt3 (a, b, c) (x, y, z) := by
  have := of_decide_eq_true h
  have := of_decide_eq_true h2
  simp [lt3, *]
theorem bef3 {a b c x y z : Int} (h : decide (a = x) = true) (h2 : decide (b = y) = true) (h3 : decide (c = z) = true) : false = lt3 (a, b, c) (x, y, z) := by
  have := of_decide_eq_true h
  have := of_decide_eq_true h2
  have := of_decide_eq_true h3
  simp [lt3, *]

structure PutI (L : List S3) (y : S3) (i : Int) : Prop where
  lo : 0 ≤ i
  hi : i ≤ (L.length : Int)
  bf : ∀ j : Nat, (j : Int) < i → lt3 (L.getD j (0, 0, 0)) y = true
section
variable {L : List S3} {y : S3} {i : Int}
theorem PutI.start : PutI L y 0 := ⟨Int.le_refl _, by omega, fun j hj => by omega⟩
theorem PutI.next (h : PutI L y i) (hl : i < (L.length : Int)) (hn : L.length ≤ 1000000000) (hb : lt3 (L.getD i.toNat (0, 0, 0)) y = true) : PutI L y (w64 (i + 1)) := by
  have h1 := h.lo
  rw [w64_in (by omega) (by omega)]
  refine ⟨by omega, by omega, fun j hj => ?_⟩
  by_cases e : (j : Int) = i
  · have : j = i.toNat := by omega
    rw [this]; exact hb
  · exact h.bf j (by omega)
theorem PutI.mu (h : PutI L y i) (hl : i < (L.length : Int)) (hn : L.length ≤ 1000000000) : ((L.length : Int) - w64 (i + 1)).toNat < ((L.length : Int) - i).toNat := by
  have h1 := h.lo
  rw [w64_in (by omega) (by omega)]; omega
theorem atS_is : ∀ (L : List S3) (n : Nat), n ≤ L.length → (∀ j, j < n → lt3 (L.getD j (0, 0, 0)) y = true) → (n = L.length ∨ lt3 (L.getD n (0, 0, 0)) y = false) → atS y L = n
  | [], n, hn, _, _ => by simp at hn; subst hn; rfl
  | x :: L, 0, _, _, h => by
    rcases h with h | h
    · simp at h
    · have : lt3 x y = false := by simpa [List.getD] using h
      simp [atS, this]
  | x :: L, n + 1, hn, hb, h => by
    have h0 : lt3 x y = true := by simpa [List.getD] using hb 0 (by omega)
    unfold atS
    rw [if_pos h0, atS_is L n (by simpa using hn) (fun j hj => by simpa [List.getD] using hb (j + 1) (by omega)) (h.imp (fun h => by simpa using h) (fun h => by simpa [List.getD] using h))]
theorem PutI.end_ (h : PutI L y i) (hl : ¬ i < (L.length : Int)) : i.toNat = atS y L := by
  have h1 := h.lo; have h2 := h.hi
  exact (atS_is L i.toNat (by omega) (fun j hj => h.bf j (by omega)) (.inl (by omega))).symm
theorem PutI.stop (h : PutI L y i) (hl : i < (L.length : Int)) (hb : lt3 (L.getD i.toNat (0, 0, 0)) y = false) : i.toNat = atS y L := by
  have h1 := h.lo
  exact (atS_is L i.toNat (by omega) (fun j hj => h.bf j (by omega)) (.inr hb)).symm
end

theorem take_tail {L : List S3} {sp : List Value} {n c i : Nat} (h : Row (sl L) sp n c 3) (hi : i ≤ L.length) : List.take (subK L.length i * 3) (List.drop (offK c i 0 3) (sl L ++ sp)) = sl (L.drop i) := by
  have hl := row_sl h
  have hc := h.cap
  rw [sl_len] at hc
  rw [subK_eq]
  have key : List.take ((L.length - i) * 3) (List.drop (i * 3) (sl L ++ sp)) = sl (L.drop i) := by
    have e : sl L = sl (L.take i) ++ sl (L.drop i) := by rw [← sl_app, List.take_append_drop]
    have e1 : (sl (L.take i)).length = i * 3 := by rw [sl_len, List.length_take]; congr 1; omega
    have e2 : (sl (L.drop i)).length = (L.length - i) * 3 := by rw [sl_len, List.length_drop]
    rw [e, List.append_assoc, ← e1, List.drop_left, ← e2, List.take_left]
  cases i with
  | zero =>
    show List.take _ (List.drop 0 _) = _
    simpa using key
  | succ i =>
    show List.take _ (List.drop (match Nat.beq c (i + 1) with | true => 0 | false => 0 + (i + 1) * 3) _) = _
    cases hb : Nat.beq c (i + 1) with
    | false => simpa using key
    | true =>
      have := Nat.eq_of_beq_eq_true hb
      have e0 : L.length - (i + 1) = 0 := by omega
      rw [e0] at key ⊢
      simpa using key
theorem tail_len {L : List S3} {i : Nat} : (sl (L.drop i)).length = subK L.length i * 3 := by rw [sl_len, List.length_drop, subK_eq]
theorem take_head {L : List S3} {sp : List Value} {i : Nat} (hi : i ≤ L.length) : List.take (i * 3) (List.drop 0 (sl L ++ sp)) = sl (L.take i) := by
  have e : sl L = sl (L.take i) ++ sl (L.drop i) := by rw [← sl_app, List.take_append_drop]
  have e1 : (sl (L.take i)).length = i * 3 := by rw [sl_len, List.length_take]; congr 1; omega
  rw [List.drop_zero, e, List.append_assoc, ← e1, List.take_left]
theorem head_len {L : List S3} {i : Nat} (hi : i ≤ L.length) : (sl (L.take i)).length = i * 3 := by rw [sl_len, List.length_take]; congr 1; omega
theorem take_row {X s : List Value} {m c k : Nat} (h : Row X s m c k) : List.take (m * k) (List.drop 0 (X ++ s)) = X := by
  rw [List.drop_zero, ← h.len, List.take_left]
theorem ins_row {L : List S3} {y : S3} {i : Nat} (hm : ¬ y ∈ L) (hi : i = atS y L) : ([] ++ sl (L.take i)) ++ ([iv y.1, iv y.2.1, iv y.2.2] ++ sl (L.drop i)) = sl (insS L y) := by
  unfold insS
  rw [if_neg hm, ← hi, sl_app, sl_app, List.nil_append, List.append_assoc]
  rfl
theorem eq3_cells {a b c x y z : Int} : eqCells #[iv a, iv b, iv c].toList #[iv x, iv y, iv z].toList = true ↔ (a, b, c) = (x, y, z) := by
  have : eqCells #[iv a, iv b, iv c].toList #[iv x, iv y, iv z].toList = (decide (a = x) && (decide (b = y) && (decide (c = z) && true))) := rfl
  rw [this]
  simp

def bigN : Nat := 64000000
def boxL (k : Cn) : List S3 := bfs k.nxS (bigN + 1) 0 [(0, 0, 0)]
def boxO (k : Cn) : List S3 := (boxL k).foldl insS []
theorem fold_ins : ∀ (l m : List S3), Asc m → Asc (l.foldl insS m) ∧ ∀ x, x ∈ l.foldl insS m ↔ x ∈ m ∨ x ∈ l
  | [], m, h => ⟨h, fun x => by simp⟩
  | y :: l, m, h => by
    obtain ⟨h1, h2⟩ := fold_ins l (insS m y) (insS_asc h y)
    refine ⟨h1, fun x => ?_⟩
    rw [List.foldl_cons, h2, insS_mem, List.mem_cons]
    constructor
    · rintro ((h | h) | h)
      · exact .inl h
      · exact .inr (.inl h)
      · exact .inr (.inr h)
    · rintro (h | h | h)
      · exact .inl (.inl h)
      · exact .inl (.inr h)
      · exact .inr h
theorem boxO_asc (k : Cn) : Asc (boxO k) := (fold_ins _ [] List.Pairwise.nil).1
theorem boxO_mem (k : Cn) (x : S3) : x ∈ boxO k ↔ x ∈ boxL k := by
  have := (fold_ins (boxL k) [] List.Pairwise.nil).2 x
  simpa [boxO] using this
theorem Asc.nodup {l : List S3} (h : Asc l) : l.Nodup := by
  refine List.Pairwise.imp ?_ h
  intro a b hab e
  rw [e, lt3_irr] at hab; cases hab
structure BxO (k : Cn) (i : Int) (L O : List S3) : Prop where
  ok : k.Ok
  lo : 0 ≤ i
  hi : i ≤ (L.length : Int)
  bl : BoxL k L
  asc : Asc O
  mem : ∀ x, x ∈ O ↔ x ∈ L
  tot : bfs k.nxS (bigN + 1 - i.toNat) i.toNat L = boxL k
structure BxI (k : Cn) (i j : Int) (L O : List S3) : Prop where
  ok : k.Ok
  lo : 0 ≤ i
  hi : i < (L.length : Int)
  j0 : 0 ≤ j
  j3 : j ≤ 3
  bl : BoxL k L
  asc : Asc O
  mem : ∀ x, x ∈ O ↔ x ∈ L
  tot : ∃ L0, BoxL k L0 ∧ i.toNat < L0.length ∧ L = puts k.nxS i.toNat L0 j.toNat ∧ bfs k.nxS (bigN + 1 - i.toNat) i.toNat L0 = boxL k
section
variable {k : Cn} {i j : Int} {L O : List S3} {x : S3}
theorem BxO.len (h : BxO k i L O) : L.length ≤ 64000000 ∧ O.length ≤ 64000000 :=
  ⟨h.bl.len h.ok, BoxL.len ⟨h.asc.nodup, fun x hx => h.bl.box x ((h.mem x).1 hx)⟩ h.ok⟩
theorem BxI.len (h : BxI k i j L O) : L.length ≤ 64000000 ∧ O.length ≤ 64000000 :=
  ⟨h.bl.len h.ok, BoxL.len ⟨h.asc.nodup, fun x hx => h.bl.box x ((h.mem x).1 hx)⟩ h.ok⟩
theorem BxO.start (hk : k.Ok) : BxO k 0 [(0, 0, 0)] [(0, 0, 0)] :=
  ⟨hk, Int.le_refl _, by simp, BoxL.start hk, by simp [Asc], fun x => Iff.rfl, rfl⟩
theorem BxO.enter (h : BxO k i L O) (hl : i < (L.length : Int)) : BxI k i 0 L O :=
  ⟨h.ok, h.lo, hl, Int.le_refl _, by omega, h.bl, h.asc, h.mem, L, h.bl, by have := h.lo; omega, rfl, h.tot⟩
theorem BxI.sm (h : BxI k i j L O) : Sm3 (L.getD i.toNat (0, 0, 0)) ∧ k.Box (k.own (L.getD i.toNat (0, 0, 0))) := by
  have h1 := h.lo; have h2 := h.hi
  have hm : L.getD i.toNat (0, 0, 0) ∈ L := by
    have : i.toNat < L.length := by omega
    rw [show L.getD i.toNat (0, 0, 0) = L[i.toNat] by simp [List.getD, List.getElem?_eq_getElem this]]
    exact List.getElem_mem this
  have hb := h.bl.box _ hm
  have := box_small h.ok hb
  exact ⟨⟨by omega, by omega, by omega⟩, hb⟩
theorem BxI.step (h : BxI k i j L O) (hj : j < 3) : ∃ L0, BoxL k L0 ∧ i.toNat < L0.length ∧ put1 L (k.nxS (L.getD i.toNat (0, 0, 0)) j.toNat) = puts k.nxS i.toNat L0 (j + 1).toNat ∧ bfs k.nxS (bigN + 1 - i.toNat) i.toNat L0 = boxL k := by
  obtain ⟨L0, h1, h2, h3, h4⟩ := h.tot
  refine ⟨L0, h1, h2, ?_, h4⟩
  have : (j + 1).toNat = j.toNat + 1 := by have := h.j0; omega
  rw [this, puts, ← h3]
theorem BxI.old (h : BxI k i j L O) (hj : j < 3) (hm : k.nxS (L.getD i.toNat (0, 0, 0)) j.toNat ∈ O) : BxI k i (w64 (j + 1)) L O := by
  have h0 := h.j0
  rw [w64_in (by omega) (by omega)]
  obtain ⟨L0, h1, h2, h3, h4⟩ := h.step hj
  have e : put1 L (k.nxS (L.getD i.toNat (0, 0, 0)) j.toNat) = L := if_pos ((h.mem _).1 hm)
  rw [e] at h3
  exact ⟨h.ok, h.lo, h.hi, by omega, by omega, h.bl, h.asc, h.mem, L0, h1, h2, h3, h4⟩
theorem BxI.new (h : BxI k i j L O) (hj : j < 3) (hm : ¬ k.nxS (L.getD i.toNat (0, 0, 0)) j.toNat ∈ O) : BxI k i (w64 (j + 1)) (L ++ [k.nxS (L.getD i.toNat (0, 0, 0)) j.toNat]) (insS O (k.nxS (L.getD i.toNat (0, 0, 0)) j.toNat)) := by
  have h0 := h.j0
  rw [w64_in (by omega) (by omega)]
  obtain ⟨L0, h1, h2, h3, h4⟩ := h.step hj
  have hb := h.bl.put h.ok (L.getD i.toNat (0, 0, 0)) j.toNat
  have e : put1 L (k.nxS (L.getD i.toNat (0, 0, 0)) j.toNat) = L ++ [k.nxS (L.getD i.toNat (0, 0, 0)) j.toNat] := if_neg (fun hh => hm ((h.mem _).2 hh))
  rw [e] at h3 hb
  have hi := h.hi
  refine ⟨h.ok, h.lo, by rw [List.length_append]; simp; omega, by omega, by omega, hb, insS_asc h.asc _, fun x => ?_, L0, h1, h2, h3, h4⟩
  rw [insS_mem, List.mem_append, List.mem_singleton, h.mem]
theorem BxI.out (h : BxI k i j L O) (hj : ¬ j < 3) : BxO k (w64 (i + 1)) L O := by
  have h0 := h.lo; have h3 := h.j3; have hl := h.len; have hi := h.hi
  rw [w64_in (by omega) (by omega)]
  obtain ⟨L0, g1, g2, g3, g4⟩ := h.tot
  have ej : j.toNat = 3 := by omega
  rw [ej] at g3
  refine ⟨h.ok, by omega, by omega, h.bl, h.asc, h.mem, ?_⟩
  have e1 : (i + 1).toNat = i.toNat + 1 := by omega
  have e2 : bigN + 1 - i.toNat = (bigN + 1 - (i + 1).toNat) + 1 := by unfold bigN; omega
  rw [e2, bfs, if_pos g2, ← g3] at g4
  rw [e1] at g4 ⊢
  exact g4
theorem BxO.fin (h : BxO k i L O) (hl : ¬ i < (L.length : Int)) : L = boxL k ∧ O = boxO k := by
  have h0 := h.lo; have h1 := h.len; have h2 := h.hi
  have e2 : bigN + 1 - i.toNat = (bigN - i.toNat) + 1 := by unfold bigN; omega
  have ht := h.tot
  rw [e2, bfs, if_neg (by omega)] at ht
  refine ⟨ht, asc_uniq h.asc (boxO_asc k) fun x => ?_⟩
  rw [h.mem, boxO_mem, ht]
theorem BxO.mu (h : BxO k i L O) (hl : i < (L.length : Int)) : (64000001 - w64 (i + 1)).toNat < (64000001 - i).toNat := by
  have h0 := h.lo; have h1 := h.len
  rw [w64_in (by omega) (by omega)]; omega
theorem BxI.mu (h : BxI k i j L O) (hl : j < 3) : (3 - w64 (j + 1)).toNat < (3 - j).toNat := by
  have h0 := h.j0
  rw [w64_in (by omega) (by omega)]; omega
theorem BxI.three (h : BxI k i j L O) (hl : j < 3) : j = 0 ∨ j = 1 ∨ j = 2 := by
  have := h.j0; omega
end

section
variable {k : Cn} {x : S3}
theorem quo_F (h : k.Ok) {o : Int} (ho : -480000 ≤ o ∧ o ≤ 480000) : w64 (0 - floorF o (sizeF (volF k.a k.b k.c k.d k.e k.f k.g k.h k.i))) = -(o / k.D) := by
  have hd := Cn.D_le h
  have hq := div_bd hd.1 ho
  rw [Cn.size_F h, floorF_eq (by omega) (by omega) (by omega), w64_in (by omega) (by omega)]
  omega
theorem fold1 {p q0 q1 q2 u v w : Int} (hp : -200 ≤ p ∧ p ≤ 200) (h0 : -480000 ≤ q0 ∧ q0 ≤ 480000) (h1 : -480000 ≤ q1 ∧ q1 ≤ 480000) (h2 : -480000 ≤ q2 ∧ q2 ≤ 480000) (hu : -20 ≤ u ∧ u ≤ 20) (hv : -20 ≤ v ∧ v ≤ 20) (hw : -20 ≤ w ∧ w ≤ 20) :
    plusF (plusF (plusF p (-q0) u) (-q1) v) (-q2) w = p + (-q0 * u + -q1 * v + -q2 * w) := by
  have m0 := mul_abs (x := -q0) (y := u) (m := 480000) (n := 20) (by omega) (by omega) hu.1 hu.2 (by omega)
  have m1 := mul_abs (x := -q1) (y := v) (m := 480000) (n := 20) (by omega) (by omega) hv.1 hv.2 (by omega)
  have m2 := mul_abs (x := -q2) (y := w) (m := 480000) (n := 20) (by omega) (by omega) hw.1 hw.2 (by omega)
  rw [plus_in (a := p) (by omega) (by omega), plus_in (a := p + -q0 * u) (by omega) (by omega), plus_in (by omega) (by omega)]
  omega
theorem fold_F (h : k.Ok) (hx : Sm3 x) {o0 o1 o2 : Int} (e0 : o0 = (k.own x).1) (e1 : o1 = (k.own x).2.1) (e2 : o2 = (k.own x).2.2) :
    (plusF (plusF (plusF x.1 (w64 (0 - floorF o0 (sizeF (volF k.a k.b k.c k.d k.e k.f k.g k.h k.i)))) k.a) (w64 (0 - floorF o1 (sizeF (volF k.a k.b k.c k.d k.e k.f k.g k.h k.i)))) k.d) (w64 (0 - floorF o2 (sizeF (volF k.a k.b k.c k.d k.e k.f k.g k.h k.i)))) k.g = (k.fold x).1) ∧
    (plusF (plusF (plusF x.2.1 (w64 (0 - floorF o0 (sizeF (volF k.a k.b k.c k.d k.e k.f k.g k.h k.i)))) k.b) (w64 (0 - floorF o1 (sizeF (volF k.a k.b k.c k.d k.e k.f k.g k.h k.i)))) k.e) (w64 (0 - floorF o2 (sizeF (volF k.a k.b k.c k.d k.e k.f k.g k.h k.i)))) k.h = (k.fold x).2.1) ∧
    (plusF (plusF (plusF x.2.2 (w64 (0 - floorF o0 (sizeF (volF k.a k.b k.c k.d k.e k.f k.g k.h k.i)))) k.c) (w64 (0 - floorF o1 (sizeF (volF k.a k.b k.c k.d k.e k.f k.g k.h k.i)))) k.f) (w64 (0 - floorF o2 (sizeF (volF k.a k.b k.c k.d k.e k.f k.g k.h k.i)))) k.i = (k.fold x).2.2) := by
  subst e0 e1 e2
  obtain ⟨b0, b1, b2⟩ := Cn.own_bd h hx
  have hd := Cn.D_le h
  rw [quo_F h b0, quo_F h b1, quo_F h b2]
  have q0 := div_bd hd.1 b0
  have q1 := div_bd hd.1 b1
  have q2 := div_bd hd.1 b2
  exact ⟨fold1 hx.x q0 q1 q2 h.ba h.bd h.bg, fold1 hx.y q0 q1 q2 h.bb h.be h.bh, fold1 hx.z q0 q1 q2 h.bc h.bf h.bi⟩
theorem unit_F {p : Int} {u : Int} (hp : -100 ≤ p ∧ p ≤ 100) (hu : u = 0 ∨ u = 1) : plusF p 1 u = p + u := by
  rw [plus_in (by omega) (by omega)]; omega
theorem sm_unit {p : S3} (hp : (-60 ≤ p.1 ∧ p.1 ≤ 60) ∧ (-60 ≤ p.2.1 ∧ p.2.1 ≤ 60) ∧ (-60 ≤ p.2.2 ∧ p.2.2 ≤ 60)) (j : Nat) : Sm3 (add3 p (unit3 j)) := by
  have : ∀ q : S3, (0 ≤ q.1 ∧ q.1 ≤ 1) → (0 ≤ q.2.1 ∧ q.2.1 ≤ 1) → (0 ≤ q.2.2 ∧ q.2.2 ≤ 1) → Sm3 (add3 p q) := fun q h1 h2 h3 => ⟨by simp only [add3]; omega, by simp only [add3]; omega, by simp only [add3]; omega⟩
  match j with
  | 0 => exact this _ (by decide) (by decide) (by decide)
  | 1 => exact this _ (by decide) (by decide) (by decide)
  | _ + 2 => exact this (0, 0, 1) (by decide) (by decide) (by decide)
end
theorem BxI.sm6 {k : Cn} {i j : Int} {L O : List S3} (h : BxI k i j L O) : (-60 ≤ (L.getD i.toNat (0, 0, 0)).1 ∧ (L.getD i.toNat (0, 0, 0)).1 ≤ 60) ∧ (-60 ≤ (L.getD i.toNat (0, 0, 0)).2.1 ∧ (L.getD i.toNat (0, 0, 0)).2.1 ≤ 60) ∧ (-60 ≤ (L.getD i.toNat (0, 0, 0)).2.2 ∧ (L.getD i.toNat (0, 0, 0)).2.2 ≤ 60) := box_small h.ok h.sm.2
theorem ins_len {L : List S3} {y : S3} (h : ¬ y ∈ L) : (insS L y).length = L.length + 1 := by
  unfold insS
  rw [if_neg h]
  have := atS_le y L
  simp only [List.length_append, List.length_take, List.length_drop, List.length_singleton]
  omega
theorem spot1 {o0 o1 o2 u v w d t : Int} (h0 : 0 ≤ o0 ∧ o0 ≤ 400) (h1 : 0 ≤ o1 ∧ o1 ≤ 400) (h2 : 0 ≤ o2 ∧ o2 ≤ 400) (hu : -20 ≤ u ∧ u ≤ 20) (hv : -20 ≤ v ∧ v ≤ 20) (hw : -20 ≤ w ∧ w ≤ 20) (hd : 1 ≤ d) (ht : -60 ≤ t ∧ t ≤ 60) (he : o0 * u + o1 * v + o2 * w = d * t) :
    w64 ((plusF (plusF (plusF 0 o0 u) o1 v) o2 w).tdiv d) = t := by
  have m0 := mul_abs (x := o0) (y := u) (m := 400) (n := 20) (by omega) (by omega) hu.1 hu.2 (by omega)
  have m1 := mul_abs (x := o1) (y := v) (m := 400) (n := 20) (by omega) (by omega) hv.1 hv.2 (by omega)
  have m2 := mul_abs (x := o2) (y := w) (m := 400) (n := 20) (by omega) (by omega) hw.1 hw.2 (by omega)
  rw [plus_in (a := 0) (by omega) (by omega), plus_in (a := 0 + o0 * u) (by omega) (by omega), plus_in (by omega) (by omega)]
  rw [show 0 + o0 * u + o1 * v + o2 * w = d * t by omega, Int.mul_tdiv_cancel_left t (by omega)]
  exact w64_in (by omega) (by omega)
theorem spot_F {k : Cn} {p : S3} (h : k.Ok) (hb : k.BoxD (k.own p)) :
    (w64 ((plusF (plusF (plusF 0 (k.own p).1 k.a) (k.own p).2.1 k.d) (k.own p).2.2 k.g).tdiv (sizeF (volF k.a k.b k.c k.d k.e k.f k.g k.h k.i))) = p.1) ∧
    (w64 ((plusF (plusF (plusF 0 (k.own p).1 k.b) (k.own p).2.1 k.e) (k.own p).2.2 k.h).tdiv (sizeF (volF k.a k.b k.c k.d k.e k.f k.g k.h k.i))) = p.2.1) ∧
    (w64 ((plusF (plusF (plusF 0 (k.own p).1 k.c) (k.own p).2.1 k.f) (k.own p).2.2 k.i).tdiv (sizeF (volF k.a k.b k.c k.d k.e k.f k.g k.h k.i))) = p.2.2) := by
  have hs := box_smallD h hb
  have hd := Cn.D_le h
  have e := k.sum_own p
  simp only [Cn.sum, mul3, Prod.mk.injEq] at e
  obtain ⟨e1, e2, e3⟩ := e
  obtain ⟨b1, b2, b3⟩ := hb
  rw [Cn.size_F h]
  exact ⟨spot1 (by omega) (by omega) (by omega) h.ba h.bd h.bg hd.1 hs.1 e1, spot1 (by omega) (by omega) (by omega) h.bb h.be h.bh hd.1 hs.2.1 e2, spot1 (by omega) (by omega) (by omega) h.bc h.bf h.bi hd.1 hs.2.2 e3⟩
structure SpI (k : Cn) (L : List S3) (i : Int) (O : List S3) : Prop where
  lo : 0 ≤ i
  hi : i ≤ (L.length : Int)
  out : O = L.take i.toNat
theorem SpI.start {k : Cn} {L : List S3} : SpI k L 0 [] := ⟨Int.le_refl _, by omega, rfl⟩
theorem SpI.next {k : Cn} {L : List S3} {i : Int} {O : List S3} (h : SpI k L i O) (hl : i < (L.length : Int)) (hn : L.length ≤ 100000000) : SpI k L (w64 (i + 1)) (O ++ [L.getD i.toNat (0, 0, 0)]) := by
  have h0 := h.lo
  rw [w64_in (by omega) (by omega)]
  refine ⟨by omega, by omega, ?_⟩
  have e : (i + 1).toNat = i.toNat + 1 := by omega
  have hlt : i.toNat < L.length := by omega
  rw [h.out, e, List.take_add_one, List.getElem?_eq_getElem hlt]
  simp [List.getD, List.getElem?_eq_getElem hlt]
theorem SpI.mu {k : Cn} {L : List S3} {i : Int} {O : List S3} (h : SpI k L i O) (hl : i < (L.length : Int)) (hn : L.length ≤ 100000000) : ((L.length : Int) - w64 (i + 1)).toNat < ((L.length : Int) - i).toNat := by
  have h0 := h.lo
  rw [w64_in (by omega) (by omega)]; omega
theorem SpI.fin {k : Cn} {L : List S3} {i : Int} {O : List S3} (h : SpI k L i O) (hl : ¬ i < (L.length : Int)) : O = L := by
  have h0 := h.lo
  rw [h.out]; exact List.take_of_length_le (by omega)
theorem getD_map {k : Cn} {L : List S3} {i : Nat} (hi : i < L.length) : (L.map k.own).getD i (0, 0, 0) = k.own (L.getD i (0, 0, 0)) := by
  simp [List.getD, List.getElem?_map, List.getElem?_eq_getElem hi]
structure SpL (k : Cn) (L : List S3) : Prop where
  le : L.length ≤ 100000000
  box : ∀ x ∈ L, k.BoxD (k.own x)
theorem SpL.len {k : Cn} {L : List S3} (h : SpL k L) (hk : k.Ok) : L.length ≤ 100000000 := h.le
theorem BoxL.spl {k : Cn} {L : List S3} (h : BoxL k L) (hk : k.Ok) : SpL k L := ⟨Nat.le_trans (h.len hk) (by decide), fun x hx => (h.box x hx).le⟩
theorem getD_boxD {k : Cn} {L : List S3} (hL : SpL k L) {i : Nat} (hi : i < L.length) : k.BoxD (k.own (L.getD i (0, 0, 0))) := by
  refine hL.box _ ?_
  rw [show L.getD i (0, 0, 0) = L[i] by simp [List.getD, List.getElem?_eq_getElem hi]]
  exact List.getElem_mem hi
theorem getD_box {k : Cn} {L : List S3} (hL : BoxL k L) {i : Nat} (hi : i < L.length) : k.Box (k.own (L.getD i (0, 0, 0))) := by
  refine hL.box _ ?_
  rw [show L.getD i (0, 0, 0) = L[i] by simp [List.getD, List.getElem?_eq_getElem hi]]
  exact List.getElem_mem hi
theorem take_own {k : Cn} {L : List S3} {sp : List Value} {off i : Nat} (ho : off = i * 3) (hi : i < L.length) : List.take 3 (List.drop off (sl (L.map k.own) ++ sp)) = [iv (k.own (L.getD i (0, 0, 0))).1, iv (k.own (L.getD i (0, 0, 0))).2.1, iv (k.own (L.getD i (0, 0, 0))).2.2] := by
  rw [take_sp ho (by rw [List.length_map]; exact hi), getD_map hi]
theorem row_perm3 {L L2 : List S3} {sp : List Value} {n c : Nat} (h : Row (sl L) sp n c 3) (hl : L2.length = L.length) : Row (sl L2) sp n c 3 :=
  ⟨by rw [sl_len, hl, ← sl_len]; exact h.len, by rw [sl_len, hl, ← sl_len]; exact h.cap, sl_plain _, h.ps⟩
end Go.Ev
end

section
/-
  Contracts of functions of the program (printed by a program of this work; Lean checks each).
  Conditions: as each contract states.
-/
namespace Go.Proofs.YtndmkibdcfpddaaGreat
open Go.Ev Go.RowKit
set_option maxRecDepth 100000
set_option linter.unusedVariables false
set_option linter.unusedSimpArgs false

theorem c_spec_l08Before {a b c x y z : Int}  : Pure Tryz.prog n_spec_l08Before [v3 a b c, v3 x y z] (bb (lt3 (a, b, c) (x, y, z))) := by
  refine pure_of good fn_spec_l08Before rfl rfl ?_
  conv => whnf
  all_goals (repeat' first | (exact congrArg Value.bool (bef0 (by assumption))) | (exact congrArg Value.bool (bef1 (by assumption) (by assumption))) | (exact congrArg Value.bool (bef2 (by assumption) (by assumption) (by assumption))) | (exact congrArg Value.bool (bef3 (by assumption) (by assumption) (by assumption))) | (refine StoreK.mk rfl ?_; conv => whnf) | exact join_same | exact (by assumption : (_ : Bool) = (_ : Bool)) | (refine br_true (by assumption) ?_; conv => whnf) | (refine br_false (by assumption) ?_; conv => whnf) | (refine br_not ?_; conv => whnf) | (refine br_code ?_; conv => whnf) | (with_reducible refine br_and ?_; conv => whnf) | (with_reducible refine br_or ?_; conv => whnf) | (refine br_eq2 ?_; conv => whnf) | (refine draw_auto (by decide +kernel) ?_; conv => whnf) | (refine draw_asg (by decide +kernel) ?_; conv => whnf) | (refine draw_st (by decide +kernel) ?_; conv => whnf) | (refine draw_call (by decide +kernel) ?_; conv => whnf) | (refine enter_same (loop_n 12 ?_); conv => whnf) | (refine next_same ?_; conv => whnf) | (refine mapK_row (by assumption) ?_; conv => whnf) | (refine mapK_plain (Plain.of rfl) ?_; conv => whnf) | (refine mapK_lit ?_; conv => whnf) | (refine br_split (fun _ => ?_) (fun _ => ?_) <;> conv => whnf) | exact (rfl : (_ : Value) = _) | (simp only [*]; exact (rfl : (_ : Value) = _)) | (simp [*]; done))

end Go.Proofs.YtndmkibdcfpddaaGreat
end

section
/-
  Contracts of functions of the program (printed by a program of this work; Lean checks each).
  Conditions: as each contract states.
-/
namespace Go.Proofs.YtndmkibdcfpddaaGreat
open Go.Ev Go.RowKit
set_option maxRecDepth 100000
set_option linter.unusedVariables false
set_option linter.unusedSimpArgs false

set_option maxHeartbeats 2000000 in
theorem c_l08Put_old {L : List S3} {sp : List Value} {n c : Nat} {y : S3} (h1 : Row (sl L) sp n c 3) (hA : Asc L) (hn : n ≤ 100000000) (hm : y ∈ L) : CallOK Tryz.prog n_spec_l08Put [.slice (some ⟨0, 0, none⟩) n c, v3 y.1 y.2.1 y.2.2] [(sl L ++ sp, none)] (fun v m_ => v = .slice (some ⟨0, 0, none⟩) n c ∧ m_ = [(sl L ++ sp, none)]) := by
  obtain rfl := row_sl h1; refine callOK_ofF good fn_spec_l08Put ?_
  conv => whnf
  all_goals (repeat' first | (refine enter_forget [1] (loop_rec (fun (s : Int) => match s with | i => [.slice (some ⟨0, 0, none⟩) L.length c, v3 y.1 y.2.1 y.2.2, wild, .pointer (some ⟨1, 0, none⟩), .slice none 0 0, ii i, wild, wild, wild, wild, wild, wild, wild, wild, wild, wild, wild, wild, wild, wild, wild, wild, wild, wild, wild, wild, wild, wild, wild, wild, wild, wild, wild, wild, wild, wild, wild, wild, wild, wild, wild, wild, wild, wild, wild, wild, wild]) (fun (s : Int) => match s with | i => [(sl L ++ sp, none), ([ii y.1, ii y.2.1, ii y.2.2], some t_impl_Spot)]) (fun (s : Int) => match s with | i => ((L.length : Int) - i).toNat) (fun (s : Int) => match s with | i => PutI L y i) (0) PutI.start ?_) (tmR_rfl rfl rfl) ⟨⟨⟨_, rfl, .plain rfl rfl (Row.all h1)⟩⟩, ⟨⟨_, rfl, .plain rfl rfl (by first | exact Plain.of rfl | exact Row.all (by assumption))⟩⟩, trivial⟩ rfl rfl; rintro fuel_ i hI IH; replace hI : PutI L y i := hI; conv => whnf) | exact next_forget [1] (IH (w64 (i + 1)) (by exact hI.next (of_decide_eq_true (show decide (i < (L.length : Int)) = true by assumption)) (by omega) (by assumption)) (by exact hI.mu (of_decide_eq_true (show decide (i < (L.length : Int)) = true by assumption)) (by omega))) (tmR_rfl rfl rfl) ⟨⟨⟨_, rfl, .plain rfl rfl (Row.all h1)⟩⟩, ⟨⟨_, rfl, .plain rfl rfl (by first | exact Plain.of rfl | exact Row.all (by assumption))⟩⟩, trivial⟩ rfl rfl | (refine br_in hI.lo (of_decide_eq_true (show decide (i < (L.length : Int)) = true by assumption)) ?_; conv => whnf) | (refine force_eq (take_sp (ps := L) (i := i.toNat) ?_ ?_) ?_; (focus (simp only [Nat.zero_add]; done)); (focus (have := hI.lo; have := of_decide_eq_true (show decide (i < (L.length : Int)) = true by assumption); omega)); conv => whnf) | (refine draw_pt (.take 2 (.take 3 (.take 4 (.solo 0 (.solo 1 (.solo 5 (.solo 6 .done))))))) (by decide +kernel) ?_; conv => whnf) | (refine br_true (b := decide (0 ≤ i ∧ i ≤ (L.length : Int))) (decide_eq_true ⟨hI.lo, hI.hi⟩) ?_; conv => whnf) | (refine br_true (b := decide (0 ≤ i ∧ i ≤ (c : Int))) (decide_eq_true ⟨hI.lo, by have h6_ := h1.le (by decide); have := hI.hi; omega⟩) ?_; conv => whnf) | (show OutK _ _ _ _; exact out_forget [] ⟨rfl, rfl⟩ rfl (okB2_spec rfl) ⟨⟨⟨_, rfl, .plain rfl rfl (Row.all h1)⟩⟩, trivial⟩ rfl rfl) | (show AppK _ _ _ _ _ _ _ _ _; exfalso; have at_ := (by first | exact hI.stop (of_decide_eq_true (by assumption)) (by assumption) | exact hI.end_ (of_decide_eq_false (by assumption))); obtain ⟨p_, q_⟩ := (atS_mem hA).1 hm; rw [← at_] at p_ q_; first | (have h7_ := of_decide_eq_false (show decide (i < (L.length : Int)) = false by assumption); have := hI.lo; omega) | (rename eqCells _ _ = false => g_; have q2_ := eq3_cells.2 (show ((L.getD i.toNat (0, 0, 0)).1, (L.getD i.toNat (0, 0, 0)).2.1, (L.getD i.toNat (0, 0, 0)).2.2) = (y.1, y.2.1, y.2.2) from q_); exact absurd (q2_.symm.trans g_) (by decide))) | (refine StoreK.mk rfl ?_; conv => whnf) | exact join_same | exact (by assumption : (_ : Bool) = (_ : Bool)) | (refine br_true (by assumption) ?_; conv => whnf) | (refine br_false (by assumption) ?_; conv => whnf) | (refine br_not ?_; conv => whnf) | (refine br_code ?_; conv => whnf) | (with_reducible refine br_and ?_; conv => whnf) | (with_reducible refine br_or ?_; conv => whnf) | (refine br_eq2 ?_; conv => whnf) | (refine c_spec_l08Before.call ?_; conv => whnf) | (refine c_spec_l08Before.quiet ?_; conv => whnf) | (refine draw_auto (by decide +kernel) ?_; conv => whnf) | (refine draw_asg (by decide +kernel) ?_; conv => whnf) | (refine draw_st (by decide +kernel) ?_; conv => whnf) | (refine draw_call (by decide +kernel) ?_; conv => whnf) | (refine enter_same (loop_n 12 ?_); conv => whnf) | (refine next_same ?_; conv => whnf) | (refine mapK_row (by assumption) ?_; conv => whnf) | (refine mapK_plain (Plain.of rfl) ?_; conv => whnf) | (refine mapK_lit ?_; conv => whnf) | (refine br_split (fun _ => ?_) (fun _ => ?_) <;> conv => whnf) | exact (rfl : (_ : Value) = _) | (simp only [*]; exact (rfl : (_ : Value) = _)) | (simp [*]; done))

set_option maxHeartbeats 2000000 in
theorem c_l08Put_new {L : List S3} {sp : List Value} {n c : Nat} {y : S3} (h1 : Row (sl L) sp n c 3) (hA : Asc L) (hn : n ≤ 100000000) (hm : ¬ y ∈ L) : CallOK Tryz.prog n_spec_l08Put [.slice (some ⟨0, 0, none⟩) n c, v3 y.1 y.2.1 y.2.2] [(sl L ++ sp, none)] (fun v m_ => ∃ n2 c2 s2, Row (sl (insS L y)) s2 n2 c2 3 ∧ v = .slice (some ⟨1, 0, none⟩) n2 c2 ∧ m_ = [(sl L ++ sp, none), (sl (insS L y) ++ s2, some t_impl_Spot)]) := by
  obtain rfl := row_sl h1; refine callOK_ofF good fn_spec_l08Put ?_
  conv => whnf
  all_goals (repeat' first | (refine enter_forget [1] (loop_rec (fun (s : Int) => match s with | i => [.slice (some ⟨0, 0, none⟩) L.length c, v3 y.1 y.2.1 y.2.2, wild, .pointer (some ⟨1, 0, none⟩), .slice none 0 0, ii i, wild, wild, wild, wild, wild, wild, wild, wild, wild, wild, wild, wild, wild, wild, wild, wild, wild, wild, wild, wild, wild, wild, wild, wild, wild, wild, wild, wild, wild, wild, wild, wild, wild, wild, wild, wild, wild, wild, wild, wild, wild]) (fun (s : Int) => match s with | i => [(sl L ++ sp, none), ([ii y.1, ii y.2.1, ii y.2.2], some t_impl_Spot)]) (fun (s : Int) => match s with | i => ((L.length : Int) - i).toNat) (fun (s : Int) => match s with | i => PutI L y i) (0) PutI.start ?_) (tmR_rfl rfl rfl) ⟨⟨⟨_, rfl, .plain rfl rfl (Row.all h1)⟩⟩, ⟨⟨_, rfl, .plain rfl rfl (by first | exact Plain.of rfl | exact Row.all (by assumption))⟩⟩, trivial⟩ rfl rfl; rintro fuel_ i hI IH; replace hI : PutI L y i := hI; conv => whnf) | exact next_forget [1] (IH (w64 (i + 1)) (by exact hI.next (of_decide_eq_true (show decide (i < (L.length : Int)) = true by assumption)) (by omega) (by assumption)) (by exact hI.mu (of_decide_eq_true (show decide (i < (L.length : Int)) = true by assumption)) (by omega))) (tmR_rfl rfl rfl) ⟨⟨⟨_, rfl, .plain rfl rfl (Row.all h1)⟩⟩, ⟨⟨_, rfl, .plain rfl rfl (by first | exact Plain.of rfl | exact Row.all (by assumption))⟩⟩, trivial⟩ rfl rfl | (refine br_in hI.lo (of_decide_eq_true (show decide (i < (L.length : Int)) = true by assumption)) ?_; conv => whnf) | (refine force_eq (take_sp (ps := L) (i := i.toNat) ?_ ?_) ?_; (focus (simp only [Nat.zero_add]; done)); (focus (have := hI.lo; have := of_decide_eq_true (show decide (i < (L.length : Int)) = true by assumption); omega)); conv => whnf) | (refine draw_pt (.take 2 (.take 3 (.take 4 (.solo 0 (.solo 1 (.solo 5 (.solo 6 .done))))))) (by decide +kernel) ?_; conv => whnf) | (refine br_true (b := decide (0 ≤ i ∧ i ≤ (L.length : Int))) (decide_eq_true ⟨hI.lo, hI.hi⟩) ?_; conv => whnf) | (refine br_true (b := decide (0 ≤ i ∧ i ≤ (c : Int))) (decide_eq_true ⟨hI.lo, by have h6_ := h1.le (by decide); have := hI.hi; omega⟩) ?_; conv => whnf) | (exfalso; have at_ := (by first | exact hI.stop (of_decide_eq_true (by assumption)) (by assumption) | exact hI.end_ (of_decide_eq_false (by assumption))); have q_ := (eq3_cells.1 (by assumption)); exact hm ((atS_mem hA).2 ⟨by rw [← at_]; have := hI.lo; have := of_decide_eq_true (show decide (i < (L.length : Int)) = true by assumption); omega, by rw [← at_]; exact q_⟩)) | (show AppK _ _ _ 3 _ _ _ _ _; refine app_row (L := [iv y.1, iv y.2.1, iv y.2.2]) (sp := []) (news := sl (L.drop i.toNat)) (Row.lit rfl rfl) rfl rfl (take_tail h1 (by have h8_ := hI.lo; have h9_ := hI.hi; omega)) tail_len (sl_plain _) rfl rfl (by decide) (by have e_ := subK_eq L.length i.toNat; have e2_ : subK i.toNat 0 = i.toNat := rfl; have h8_ := hI.lo; have h9_ := hI.hi; show _ * 24 ≤ _; omega) (by have e_ := subK_eq L.length i.toNat; have e2_ : subK i.toNat 0 = i.toNat := rfl; have h8_ := hI.lo; have h9_ := hI.hi; omega) (fun hle_ sra_ rra_ => ?_) (fun hle_ cra_ sra_ rra_ => ?_) <;> conv => whnf) | (show AppK _ _ _ 3 _ _ _ _ _; refine app_row (L := []) (sp := []) (news := sl (L.take i.toNat)) Row.empty rfl rfl (take_head (i := i.toNat) (by have h8_ := hI.lo; have h9_ := hI.hi; omega)) (head_len (i := i.toNat) (by have h8_ := hI.lo; have h9_ := hI.hi; omega)) (sl_plain _) rfl rfl (by decide) (by have e_ := subK_eq L.length i.toNat; have e2_ : subK i.toNat 0 = i.toNat := rfl; have h8_ := hI.lo; have h9_ := hI.hi; show _ * 24 ≤ _; omega) (by have e_ := subK_eq L.length i.toNat; have e2_ : subK i.toNat 0 = i.toNat := rfl; have h8_ := hI.lo; have h9_ := hI.hi; omega) (fun hle_ srb_ rrb_ => ?_) (fun hle_ crb_ srb_ rrb_ => ?_) <;> conv => whnf) | (show AppK _ _ _ 3 _ _ _ _ _; refine app_row rrb_ rfl rfl (take_row rra_) rra_.len rra_.pl rfl rfl (by decide) (by have e_ := subK_eq L.length i.toNat; have e2_ : subK i.toNat 0 = i.toNat := rfl; have h8_ := hI.lo; have h9_ := hI.hi; show _ * 24 ≤ _; omega) (by have e_ := subK_eq L.length i.toNat; have e2_ : subK i.toNat 0 = i.toNat := rfl; have h8_ := hI.lo; have h9_ := hI.hi; omega) (fun hle_ src_ rrc_ => ?_) (fun hle_ crc_ src_ rrc_ => ?_) <;> conv => whnf) | (have at_ := (by first | exact hI.stop (of_decide_eq_true (by assumption)) (by assumption) | exact hI.end_ (of_decide_eq_false (by assumption))); have ins_ := ins_row hm at_; have rrd_ := rrc_; rw [ins_] at rrd_; exact out_forget [_] ⟨_, _, _, rrd_, rfl, rfl⟩ rfl (okB2_spec rfl) ⟨⟨⟨_, rfl, .plain rfl rfl (Row.all h1)⟩⟩, ⟨⟨_, rfl, .plain (by rw [ins_] <;> rfl) rfl (Row.all rrd_)⟩⟩, trivial⟩ rfl rfl) | (refine StoreK.mk rfl ?_; conv => whnf) | exact join_same | exact (by assumption : (_ : Bool) = (_ : Bool)) | (refine br_true (by assumption) ?_; conv => whnf) | (refine br_false (by assumption) ?_; conv => whnf) | (refine br_not ?_; conv => whnf) | (refine br_code ?_; conv => whnf) | (with_reducible refine br_and ?_; conv => whnf) | (with_reducible refine br_or ?_; conv => whnf) | (refine br_eq2 ?_; conv => whnf) | (refine c_spec_l08Before.call ?_; conv => whnf) | (refine c_spec_l08Before.quiet ?_; conv => whnf) | (refine draw_auto (by decide +kernel) ?_; conv => whnf) | (refine draw_asg (by decide +kernel) ?_; conv => whnf) | (refine draw_st (by decide +kernel) ?_; conv => whnf) | (refine draw_call (by decide +kernel) ?_; conv => whnf) | (refine enter_same (loop_n 12 ?_); conv => whnf) | (refine next_same ?_; conv => whnf) | (refine mapK_row (by assumption) ?_; conv => whnf) | (refine mapK_plain (Plain.of rfl) ?_; conv => whnf) | (refine mapK_lit ?_; conv => whnf) | (refine br_split (fun _ => ?_) (fun _ => ?_) <;> conv => whnf) | exact (rfl : (_ : Value) = _) | (simp only [*]; exact (rfl : (_ : Value) = _)) | (simp [*]; done))

end Go.Proofs.YtndmkibdcfpddaaGreat
end

section
/-
  Contracts of functions of the program (printed by a program of this work; Lean checks each).
  Conditions: as each contract states.
-/
namespace Go.Proofs.YtndmkibdcfpddaaGreat
open Go.Ev Go.RowKit
set_option maxRecDepth 100000
set_option linter.unusedVariables false
set_option linter.unusedSimpArgs false

set_option maxHeartbeats 1000000 in
theorem c_l08Fold_raw {a b c d e f g h i x y z : Int} (hD : decide ((sizeF (volF a b c d e f g h i)) = 0) = false) : Pure Tryz.prog n_spec_l08Fold [v9 a b c d e f g h i, v3 x y z] (v3 (plusF (plusF (plusF x (w64 (0 - floorF (co0 a b c d e f g h i x y z) (sizeF (volF a b c d e f g h i)))) a) (w64 (0 - floorF (co1 a b c d e f g h i x y z) (sizeF (volF a b c d e f g h i)))) d) (w64 (0 - floorF (co2 a b c d e f g h i x y z) (sizeF (volF a b c d e f g h i)))) g) (plusF (plusF (plusF y (w64 (0 - floorF (co0 a b c d e f g h i x y z) (sizeF (volF a b c d e f g h i)))) b) (w64 (0 - floorF (co1 a b c d e f g h i x y z) (sizeF (volF a b c d e f g h i)))) e) (w64 (0 - floorF (co2 a b c d e f g h i x y z) (sizeF (volF a b c d e f g h i)))) h) (plusF (plusF (plusF z (w64 (0 - floorF (co0 a b c d e f g h i x y z) (sizeF (volF a b c d e f g h i)))) c) (w64 (0 - floorF (co1 a b c d e f g h i x y z) (sizeF (volF a b c d e f g h i)))) f) (w64 (0 - floorF (co2 a b c d e f g h i x y z) (sizeF (volF a b c d e f g h i)))) i)) := by
  refine pure_of good fn_spec_l08Fold rfl rfl ?_
  conv => whnf
  all_goals (repeat' first | exact hD | (refine StoreK.mk rfl ?_; conv => whnf) | exact join_same | exact (by assumption : (_ : Bool) = (_ : Bool)) | (refine br_true (by assumption) ?_; conv => whnf) | (refine br_false (by assumption) ?_; conv => whnf) | (refine br_not ?_; conv => whnf) | (refine br_code ?_; conv => whnf) | (with_reducible refine br_and ?_; conv => whnf) | (with_reducible refine br_or ?_; conv => whnf) | (refine br_eq2 ?_; conv => whnf) | (refine c_spec_l08Size.call ?_; conv => whnf) | (refine c_spec_l08Size.quiet ?_; conv => whnf) | (refine c_spec_l08Coordinates.call ?_; conv => whnf) | (refine c_spec_l08Coordinates.quiet ?_; conv => whnf) | (refine (c_spec_l01Floor ?_).call ?_ <;> conv => whnf) | (refine (c_spec_l01Floor ?_).quiet ?_ <;> conv => whnf) | (refine c_spec_l08Plus.call ?_; conv => whnf) | (refine c_spec_l08Plus.quiet ?_; conv => whnf) | (refine draw_auto (by decide +kernel) ?_; conv => whnf) | (refine draw_asg (by decide +kernel) ?_; conv => whnf) | (refine draw_st (by decide +kernel) ?_; conv => whnf) | (refine draw_call (by decide +kernel) ?_; conv => whnf) | (refine enter_same (loop_n 12 ?_); conv => whnf) | (refine next_same ?_; conv => whnf) | (refine mapK_row (by assumption) ?_; conv => whnf) | (refine mapK_plain (Plain.of rfl) ?_; conv => whnf) | (refine mapK_lit ?_; conv => whnf) | (refine br_split (fun _ => ?_) (fun _ => ?_) <;> conv => whnf) | exact (rfl : (_ : Value) = _) | (simp only [*]; exact (rfl : (_ : Value) = _)) | (simp [*]; done))

theorem c_l08Fold {k : Cn} {x : S3} (h : k.Ok) (hx : Sm3 x) : Pure Tryz.prog n_spec_l08Fold [v9 k.a k.b k.c k.d k.e k.f k.g k.h k.i, v3 x.1 x.2.1 x.2.2] (v3 (k.fold x).1 (k.fold x).2.1 (k.fold x).2.2) := by
  obtain ⟨e0, e1, e2⟩ := Cn.co_own h hx
  obtain ⟨f0, f1, f2⟩ := fold_F h hx e0 e1 e2
  have hD : decide (sizeF (volF k.a k.b k.c k.d k.e k.f k.g k.h k.i) = 0) = false := by
    rw [Cn.size_F h]; exact decide_eq_false (by have := (Cn.D_le h).1; omega)
  have := c_l08Fold_raw (x := x.1) (y := x.2.1) (z := x.2.2) hD
  rw [f0, f1, f2] at this
  exact this
theorem c_l08Plus_unit {p : S3} (hp : (-60 ≤ p.1 ∧ p.1 ≤ 60) ∧ (-60 ≤ p.2.1 ∧ p.2.1 ≤ 60) ∧ (-60 ≤ p.2.2 ∧ p.2.2 ≤ 60)) (j : Nat) : Pure Tryz.prog n_spec_l08Plus [v3 p.1 p.2.1 p.2.2, v3 (unit3 j).1 (unit3 j).2.1 (unit3 j).2.2, ii 1] (v3 (add3 p (unit3 j)).1 (add3 p (unit3 j)).2.1 (add3 p (unit3 j)).2.2) := by
  have hu : ((unit3 j).1 = 0 ∨ (unit3 j).1 = 1) ∧ ((unit3 j).2.1 = 0 ∨ (unit3 j).2.1 = 1) ∧ ((unit3 j).2.2 = 0 ∨ (unit3 j).2.2 = 1) := by
    match j with
    | 0 => decide
    | 1 => decide
    | _ + 2 => exact ⟨.inl rfl, .inl rfl, .inr rfl⟩
  have := c_spec_l08Plus (a := p.1) (b := p.2.1) (c := p.2.2) (x := (unit3 j).1) (y := (unit3 j).2.1) (z := (unit3 j).2.2) (k := 1)
  rw [unit_F (by omega) hu.1, unit_F (by omega) hu.2.1, unit_F (by omega) hu.2.2] at this
  exact this
theorem c_l08Nx {k : Cn} {p : S3} (h : k.Ok) (hp : (-60 ≤ p.1 ∧ p.1 ≤ 60) ∧ (-60 ≤ p.2.1 ∧ p.2.1 ≤ 60) ∧ (-60 ≤ p.2.2 ∧ p.2.2 ≤ 60)) (j : Nat) : Pure Tryz.prog n_spec_l08Fold [v9 k.a k.b k.c k.d k.e k.f k.g k.h k.i, v3 (add3 p (unit3 j)).1 (add3 p (unit3 j)).2.1 (add3 p (unit3 j)).2.2] (v3 (k.nxS p j).1 (k.nxS p j).2.1 (k.nxS p j).2.2) :=
  c_l08Fold h (sm_unit hp j)

end Go.Proofs.YtndmkibdcfpddaaGreat
end
