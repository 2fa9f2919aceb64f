/-
  Draws of points, matrices and corners: what is told of them, so that the draws' loops end. Conditions: none.
-/
import Derived.Test.YtgbnoaggnfjjgaaSrc
import Derived.Test.YtgbnoaggnfjjgaaTet
set_option linter.unusedVariables false
set_option linter.unusedSimpArgs false
namespace Go.Ev
open Go.RowKit

theorem draw_sm {m x y : Int} (hx : Below1 (w64 (w64 (2 * m) + 1)) x) (hy : Below1 (w64 (w64 (2 * m) + 1)) y) : 1 ≤ m → m ≤ 900 → sm (w64 (x - m)) 900 ∧ sm (w64 (y - m)) 900 := by
  intro h1 h2
  unfold Below1 at hx hy
  rw [w64_in (n := 2 * m) (by omega) (by omega), w64_in (n := 2 * m + 1) (by omega) (by omega)] at hx hy
  have := hx (by omega); have := hy (by omega)
  unfold sm
  rw [w64_in (n := x - m) (by omega) (by omega), w64_in (n := y - m) (by omega) (by omega)]
  omega
theorem nz_a {x y : Int} (h : decide (x = 0) = false) : ¬ (x = 0 ∧ y = 0) := fun h1 => of_decide_eq_false h h1.1
theorem nz_b {x y : Int} (h : decide (y = 0) = false) : ¬ (x = 0 ∧ y = 0) := fun h1 => of_decide_eq_false h h1.2
theorem part_g {a b : Int} (h : sm a 900 ∧ sm b 900) : gcdF a b = (Int.gcd a b : Int) := by
  obtain ⟨h1, h2⟩ := h
  unfold sm at h1 h2
  exact gcdF_eq (by omega) (by omega)
theorem part_nz {a b : Int} (h : sm a 900 ∧ sm b 900) (h0 : ¬ (a = 0 ∧ b = 0)) : decide (gcdF a b = 0) = false := by
  obtain ⟨h1, h2⟩ := h
  unfold sm at h1 h2
  exact decide_eq_false fun he => h0 ((gcdF_zero (by omega) (by omega)).1 he)
/-- A point that is not none, with small numbers. -/
structure Prm (x y : Int) : Prop where
  sx : sm x 900
  sy : sm y 900
  nz : ¬ (x = 0 ∧ y = 0)
theorem prm_10 : Prm 1 0 := ⟨by unfold sm; omega, by unfold sm; omega, by omega⟩
theorem part_ok {a b : Int} (h : sm a 900 ∧ sm b 900) (h0 : ¬ (a = 0 ∧ b = 0)) : Prm (w64 (a.tdiv (gcdF a b))) (w64 (b.tdiv (gcdF a b))) := by
  rw [part_g h]
  obtain ⟨h1, h2⟩ := h
  unfold sm at h1 h2
  have hg : ((Int.gcd a b : Nat) : Int) ≠ 0 := by
    intro he
    have : Int.gcd a b = 0 := by omega
    exact h0 (Int.gcd_eq_zero_iff.1 this)
  have e1 : ((Int.gcd a b : Nat) : Int) ∣ a := Int.gcd_dvd_left ..
  have e2 : ((Int.gcd a b : Nat) : Int) ∣ b := Int.gcd_dvd_right ..
  generalize ((Int.gcd a b : Nat) : Int) = g at *
  obtain ⟨p, rfl⟩ := e1
  obtain ⟨q, rfl⟩ := e2
  rw [Int.mul_tdiv_cancel_left _ hg, Int.mul_tdiv_cancel_left _ hg]
  have bp : p.natAbs ≤ (g * p).natAbs := by
    rw [Int.natAbs_mul]
    have : 1 * p.natAbs ≤ g.natAbs * p.natAbs := Nat.mul_le_mul_right _ (by omega)
    omega
  have bq : q.natAbs ≤ (g * q).natAbs := by
    rw [Int.natAbs_mul]
    have : 1 * q.natAbs ≤ g.natAbs * q.natAbs := Nat.mul_le_mul_right _ (by omega)
    omega
  rw [w64_in (by omega) (by omega), w64_in (by omega) (by omega)]
  refine ⟨by unfold sm; omega, by unfold sm; omega, fun h => h0 ?_⟩
  rw [h.1, h.2]; simp
theorem most_in {y : Int} (h : y ∈ [3, 5, 9, 30, 900]) : 1 ≤ y ∧ y ≤ 900 := by
  simp only [List.mem_cons, List.not_mem_nil, or_false] at h
  omega
theorem sq_nn (a : Int) : 0 ≤ a * a := by
  rcases Int.le_total 0 a with h | h
  · exact Int.mul_nonneg h h
  · exact Int.mul_nonneg_of_nonpos_of_nonpos h h
/-- One turn makes the determinant other than 0. -/
theorem turn_nz {a b : Int} (h : Prm a b) : detF a b (w64 (0 - b)) a ≠ 0 := by
  obtain ⟨h1, h2, h3⟩ := h
  have h4 := sm_mul h1 h1 (by omega); have h5 := sm_mul h2 h2 (by omega)
  unfold sm at h1 h2 h4 h5
  rw [w64_in (n := 0 - b) (by omega) (by omega)]
  unfold detF
  have e : b * (0 - b) = -(b * b) := by rw [Int.mul_sub]; omega
  rw [e, w64_in (n := a * a) (by omega) (by omega), w64_in (n := -(b * b)) (by omega) (by omega), w64_in (by omega) (by omega)]
  have p1 : 0 ≤ a * a := sq_nn a
  have p2 : 0 ≤ b * b := sq_nn b
  intro he
  have q1 : a * a = 0 := by omega
  have q2 : b * b = 0 := by omega
  exact h3 ⟨by rcases Int.mul_eq_zero.1 q1 with h | h <;> exact h, by rcases Int.mul_eq_zero.1 q2 with h | h <;> exact h⟩
def detMu (a b c d : Int) : Nat := if detF a b c d = 0 then 1 else 0
theorem turn_mu {a b c d : Int} (h : Prm a b) (h0 : decide (detF a b c d = 0) = true) : detMu a b (w64 (0 - b)) a < detMu a b c d := by
  unfold detMu
  rw [if_pos (of_decide_eq_true h0), if_neg (turn_nz h)]
  omega
/-- A sine and a cosine that may be none. -/
structure ScI (s c : Int) : Prop where
  s1 : 1 ≤ s
  s2 : s ≤ 40
  c1 : 1 ≤ c
  c2 : c ≤ s
theorem ScI.start {x : Int} (h : Below1 40 x) : ScI (w64 (1 + x)) 1 := by
  have := h (by omega)
  rw [w64_in (by omega) (by omega)]
  exact ⟨by omega, by omega, by omega, by omega⟩
theorem ScI.nz {s c : Int} (h : ScI s c) : decide (s = 0) = false := decide_eq_false (by have := h.s1; omega)
theorem ScI.next {s c : Int} (h : ScI s c) : ScI s (w64 (c.tmod s + 1)) := by
  obtain ⟨h1, h2, h3, h4⟩ := h
  rw [tmod_pos (by omega)]
  have := Int.emod_nonneg c (show s ≠ 0 by omega)
  have := Int.emod_lt_of_pos c (show 0 < s by omega)
  rw [w64_in (by omega) (by omega)]
  exact ⟨by omega, by omega, by omega, by omega⟩
theorem ScI.down {s c : Int} (h : ScI s c) (hg : decide (gcdF s c = 1) = false) : ScI s (w64 (c - 1)) ∧ (w64 (c - 1)).toNat < c.toNat := by
  obtain ⟨h1, h2, h3, h4⟩ := h
  have : c ≠ 1 := by
    rintro rfl
    refine of_decide_eq_false hg ?_
    rw [gcdF_eq (by omega) (by omega), Int.gcd_one]; rfl
  rw [w64_in (by omega) (by omega)]
  exact ⟨⟨by omega, by omega, by omega, by omega⟩, by omega⟩
theorem cnt_down {n : Int} {B : Int} (hB : B ≤ 1000) (h : 0 ≤ n ∧ n ≤ B) (h0 : decide (n > 0) = true) : (0 ≤ w64 (n - 1) ∧ w64 (n - 1) ≤ B) ∧ (w64 (n - 1)).toNat < n.toNat := by
  have := of_decide_eq_true h0
  rw [w64_in (by omega) (by omega)]
  omega
theorem two_of {x : Int} (h : Below1 2 x) : x = 0 ∨ x = 1 := by
  have := h (by omega)
  omega

end Go.Ev
