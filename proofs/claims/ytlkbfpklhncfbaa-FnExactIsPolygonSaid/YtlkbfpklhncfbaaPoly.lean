/-
  A closed chain of points turns to the left everywhere, and once around, just if each of its sides has all other points to its left.
  Conditions: none.
-/
import Derived.Test.YtlkbfpklhncfbaaCorn
import Derived.Test.YtlkbfpklhncfbaaAng
set_option linter.unusedVariables false
set_option linter.unusedSimpArgs false
namespace Go.Ev

/-- The determinant of two directions. -/
def crv (a b c d : Int) : Int := a * d - b * c
/-- The upper half. -/
def Up (a b : Int) : Prop := 0 < b ∨ (b = 0 ∧ 0 < a)
/-- The lower half, 0 with it. -/
def Dn (a b : Int) : Prop := b < 0 ∨ (b = 0 ∧ a ≤ 0)

theorem dn_of {a b : Int} (h : ¬ Up a b) : Dn a b := by unfold Up at h; unfold Dn; omega
theorem not_up {a b : Int} (h : Dn a b) : ¬ Up a b := by unfold Up; unfold Dn at h; omega

theorem pos_of_mul {a b : Int} (hb : 0 < b) (h : 0 < a * b) : 0 < a := by
  rcases Int.lt_or_le 0 a with h' | h'
  · exact h'
  · have : a * b ≤ 0 := Int.mul_nonpos_of_nonpos_of_nonneg h' (by omega)
    omega

/-- In one half, directions that follow each other to the left do so over more than one. -/
theorem up_trans {a b c d e f : Int} (h1 : Up a b) (h2 : Up c d) (h3 : Up e f) (h : 0 ≤ crv a b c d) (k : 0 < crv c d e f) : 0 < crv a b e f := by
  have key : crv a b e f * d = crv c d e f * b + crv a b c d * f := by unfold crv; grind
  have key2 : crv a b e f * c = crv c d e f * a + crv a b c d * e := by unfold crv; grind
  have hb : 0 ≤ b := by unfold Up at h1; omega
  have hd : 0 ≤ d := by unfold Up at h2; omega
  have hf : 0 ≤ f := by unfold Up at h3; omega
  rcases Int.lt_or_le 0 d with hd' | hd'
  · have p2 : 0 ≤ crv a b c d * f := Int.mul_nonneg h hf
    rcases Int.lt_or_le 0 b with hb' | hb'
    · have p1 : 0 < crv c d e f * b := Int.mul_pos k hb'
      exact pos_of_mul hd' (by omega)
    · have hb0 : b = 0 := by omega
      have ha : 0 < a := by unfold Up at h1; omega
      rcases Int.lt_or_le 0 f with hf' | hf'
      · have : crv a b e f = a * f := by unfold crv; rw [hb0]; simp
        rw [this]; exact Int.mul_pos ha hf'
      · have hf0 : f = 0 := by omega
        have he : 0 < e := by unfold Up at h3; omega
        have : crv c d e f = -(d * e) := by unfold crv; rw [hf0]; simp
        have := Int.mul_pos hd' he
        omega
  · have hd0 : d = 0 := by omega
    have hc : 0 < c := by unfold Up at h2; omega
    have e1 : crv a b c d = -(b * c) := by unfold crv; rw [hd0]; simp
    have e2 : crv c d e f = c * f := by unfold crv; rw [hd0]; simp
    have hb0 : b = 0 := by
      rcases Int.lt_or_le 0 b with hb' | hb'
      · have := Int.mul_pos hb' hc; omega
      · omega
    have ha : 0 < a := by unfold Up at h1; omega
    have hf' : 0 < f := by
      rcases Int.lt_or_le 0 f with hf' | hf'
      · exact hf'
      · have : f = 0 := by omega
        rw [e2, this] at k; simp at k
    have : crv a b e f = a * f := by unfold crv; rw [hb0]; simp
    rw [this]; exact Int.mul_pos ha hf'

theorem crv_neg (a b c d : Int) : crv (-a) (-b) (-c) (-d) = crv a b c d := by unfold crv; grind
theorem crv_neg1 (a b c d : Int) : crv (-a) (-b) c d = -crv a b c d := by unfold crv; grind
theorem crv_neg2 (a b c d : Int) : crv a b (-c) (-d) = -crv a b c d := by unfold crv; grind
theorem crv_swap (a b c d : Int) : crv c d a b = -crv a b c d := by unfold crv; grind
theorem up_neg {a b : Int} (h : Dn a b) (hn : ¬ (a = 0 ∧ b = 0)) : Up (-a) (-b) := by unfold Dn at h; unfold Up; omega
theorem crv_nz1 {a b c d : Int} (h : crv a b c d ≠ 0) : ¬ (a = 0 ∧ b = 0) := fun ⟨h1, h2⟩ => h (by unfold crv; rw [h1, h2]; simp)
theorem crv_nz2 {a b c d : Int} (h : crv a b c d ≠ 0) : ¬ (c = 0 ∧ d = 0) := fun ⟨h1, h2⟩ => h (by unfold crv; rw [h1, h2]; simp)

theorem dn_trans {a b c d e f : Int} (h1 : Dn a b) (n1 : ¬ (a = 0 ∧ b = 0)) (h2 : Dn c d) (h3 : Dn e f) (h : 0 ≤ crv a b c d) (k : 0 < crv c d e f) : 0 < crv a b e f := by
  have := up_trans (up_neg h1 n1) (up_neg h2 (crv_nz1 (c := e) (d := f) (by omega))) (up_neg h3 (crv_nz2 (a := c) (b := d) (by omega))) (by rw [crv_neg]; exact h) (by rw [crv_neg]; exact k)
  rwa [crv_neg] at this

/-! ## A chain that goes around once -/

/-- n directions, again and again; the first m of them in the upper half, the others in the lower one. -/
structure Ring (n m : Nat) (x y : Nat → Int) : Prop where
  m0 : 0 < m
  mn : m < n
  px : ∀ j, x (j + n) = x j
  py : ∀ j, y (j + n) = y j
  step : ∀ j, 0 < crv (x j) (y j) (x (j + 1)) (y (j + 1))
  up : ∀ j, j < m → Up (x j) (y j)
  dn : ∀ j, m ≤ j → j < n → Dn (x j) (y j)

theorem Ring.nz {n m : Nat} {x y : Nat → Int} (h : Ring n m x y) (j : Nat) : ¬ (x j = 0 ∧ y j = 0) := crv_nz1 (c := x (j + 1)) (d := y (j + 1)) (by have := h.step j; omega)
theorem Ring.up2 {n m : Nat} {x y : Nat → Int} (h : Ring n m x y) {j : Nat} (h1 : n ≤ j) (h2 : j < n + m) : Up (x j) (y j) := by
  have := h.up (j - n) (by omega)
  rw [← h.px, ← h.py, show j - n + n = j by omega] at this
  exact this
theorem Ring.dn2 {n m : Nat} {x y : Nat → Int} (h : Ring n m x y) {j : Nat} (h1 : n + m ≤ j) (h2 : j < n + n) : Dn (x j) (y j) := by
  have := h.dn (j - n) (by omega) (by omega)
  rw [← h.px, ← h.py, show j - n + n = j by omega] at this
  exact this
theorem Ring.upto {n m : Nat} {x y : Nat → Int} (h : Ring n m x y) (i : Nat) : ∀ d, i + d < m → 0 < d → 0 < crv (x i) (y i) (x (i + d)) (y (i + d))
  | 0, _, h0 => absurd h0 (by omega)
  | 1, _, _ => h.step i
  | d + 2, hd, _ => up_trans (h.up i (by omega)) (h.up (i + (d + 1)) (by omega)) (h.up _ hd) (by have := h.upto i (d + 1) (by omega) (by omega); omega) (h.step (i + (d + 1)))
theorem Ring.dnto {n m : Nat} {x y : Nat → Int} (h : Ring n m x y) (i : Nat) (hi : m ≤ i) : ∀ d, i + d < n → 0 < d → 0 < crv (x i) (y i) (x (i + d)) (y (i + d))
  | 0, _, h0 => absurd h0 (by omega)
  | 1, _, _ => h.step i
  | d + 2, hd, _ => dn_trans (h.dn i hi (by omega)) (h.nz i) (h.dn (i + (d + 1)) (by omega) (by omega)) (h.dn _ (by omega) hd) (by have := h.dnto i hi (d + 1) (by omega) (by omega); omega) (h.step (i + (d + 1)))
theorem Ring.upto' {n m : Nat} {x y : Nat → Int} (h : Ring n m x y) {i j : Nat} (hij : i < j) (hj : j < m) : 0 < crv (x i) (y i) (x j) (y j) := by
  have := h.upto i (j - i) (by omega) (by omega)
  rwa [show i + (j - i) = j by omega] at this
theorem Ring.dnto' {n m : Nat} {x y : Nat → Int} (h : Ring n m x y) {i j : Nat} (hi : m ≤ i) (hij : i < j) (hj : j < n) : 0 < crv (x i) (y i) (x j) (y j) := by
  have := h.dnto i hi (j - i) (by omega) (by omega)
  rwa [show i + (j - i) = j by omega] at this
theorem Ring.back {n m : Nat} {x y : Nat → Int} (h : Ring n m x y) {j : Nat} (hj : n ≤ j) : x j = x (j - n) ∧ y j = y (j - n) := by
  constructor
  · rw [← h.px (j - n), show j - n + n = j by omega]
  · rw [← h.py (j - n), show j - n + n = j by omega]

/-- Once to the right, it stays so until the way is around. -/
theorem Ring.keeps {n m : Nat} {x y : Nat → Int} (h : Ring n m x y) {i j : Nat} (hi : i < n) (hij : i < j) (hj : j + 1 ≤ i + n - 1) (hc : crv (x i) (y i) (x j) (y j) ≤ 0) : crv (x i) (y i) (x (j + 1)) (y (j + 1)) < 0 := by
  have hm0 := h.m0
  have hmn := h.mn
  have hs := h.step j
  rcases Nat.lt_or_ge i m with him | him
  · -- the side is in the upper half
    have hu := h.up i him
    rcases Nat.lt_or_ge j m with hjm | hjm
    · have := h.upto' hij hjm; omega
    rcases Nat.lt_or_ge (j + 1) n with hjn | hjn
    · have := up_trans hu (up_neg (h.dn j hjm (by omega)) (h.nz j)) (up_neg (h.dn (j + 1) (by omega) hjn) (h.nz (j + 1))) (by rw [crv_neg2]; omega) (by rw [crv_neg]; exact hs)
      rw [crv_neg2] at this; omega
    · obtain ⟨e1, e2⟩ := h.back hjn
      have := h.upto' (i := j + 1 - n) (j := i) (by omega) him
      rw [e1, e2, crv_swap]; omega
  · have hd := h.dn i him hi
    have hu := up_neg hd (h.nz i)
    rcases Nat.lt_or_ge j n with hjn | hjn
    · have := h.dnto' him hij hjn; omega
    rcases Nat.lt_or_ge (j + 1) (n + m) with hjm | hjm
    · have := up_trans hu (h.up2 hjn (by omega)) (h.up2 (j := j + 1) (by omega) hjm) (by rw [crv_neg1]; omega) hs
      rw [crv_neg1] at this; omega
    · obtain ⟨e1, e2⟩ := h.back (j := j + 1) (by omega)
      have := h.dnto' (i := j + 1 - n) (j := i) (by omega) (by omega) hi
      rw [e1, e2, crv_swap]; omega

theorem Ring.keepsAll {n m : Nat} {x y : Nat → Int} (h : Ring n m x y) {i j : Nat} (hi : i < n) (hij : i < j) (hc : crv (x i) (y i) (x j) (y j) ≤ 0) : ∀ d, 0 < d → j + d ≤ i + n - 1 → crv (x i) (y i) (x (j + d)) (y (j + d)) < 0
  | 0, h0, _ => absurd h0 (by omega)
  | 1, _, hd => h.keeps hi hij hd hc
  | d + 2, _, hd => by
    have := h.keepsAll hi hij hc (d + 1) (by omega) (by omega)
    exact h.keeps (j := j + (d + 1)) hi (by omega) (by omega) (by omega)

/-- The points of the chain. -/
structure Chain (n : Nat) (u v x y : Nat → Int) : Prop where
  pu : ∀ j, u (j + n) = u j
  pv : ∀ j, v (j + n) = v j
  dx : ∀ j, x j = u (j + 1) - u j
  dy : ∀ j, y j = v (j + 1) - v j

def Lft (u v x y : Nat → Int) (i j : Nat) : Int := crv (x i) (y i) (u j - u i) (v j - v i)

theorem Chain.lft_succ {n : Nat} {u v x y : Nat → Int} (c : Chain n u v x y) (i j : Nat) : Lft u v x y i (j + 1) = Lft u v x y i j + crv (x i) (y i) (x j) (y j) := by
  unfold Lft crv
  rw [c.dx j, c.dy j]
  grind
theorem Chain.lft_end {n : Nat} {u v x y : Nat → Int} (c : Chain n u v x y) (i : Nat) : Lft u v x y i (i + n) = 0 := by
  unfold Lft crv
  rw [c.pu, c.pv]; simp
theorem Chain.lft_one {n : Nat} {u v x y : Nat → Int} (c : Chain n u v x y) (i : Nat) : Lft u v x y i (i + 1) = 0 := by
  rw [c.lft_succ]
  unfold Lft crv
  simp [Int.mul_comm]

/-- All other points are to the left of a side. -/
theorem left_of {n m : Nat} {u v x y : Nat → Int} (c : Chain n u v x y) (h : Ring n m x y) {i : Nat} (hi : i < n) {j : Nat} (h1 : i + 2 ≤ j) (h2 : j ≤ i + n - 1) : 0 < Lft u v x y i j := by
  -- either all steps up to j are to the left
  have asc : ∀ d, (∀ l, i < l → l < i + 1 + d → 0 < crv (x i) (y i) (x l) (y l)) → 0 < d → 0 < Lft u v x y i (i + 1 + d) := by
    intro d
    induction d with
    | zero => intro _ h0; omega
    | succ d ih =>
      intro hl _
      rw [show i + 1 + (d + 1) = i + 1 + d + 1 by omega, c.lft_succ]
      have h3 := hl (i + 1 + d) (by omega) (by omega)
      by_cases hd : d = 0
      · subst hd
        have := c.lft_one i
        rw [Nat.add_zero] at h3 ⊢
        omega
      · have := ih (fun l h4 h5 => hl l h4 (by omega)) (by omega)
        omega
  -- or all steps from j on are to the right
  have desc : ∀ d, d ≤ i + n - j → (∀ l, j ≤ l → l < i + n → crv (x i) (y i) (x l) (y l) < 0) → 0 < d → 0 < Lft u v x y i (i + n - d) := by
    intro d
    induction d with
    | zero => intro _ _ h0; omega
    | succ d ih =>
      intro hd hl _
      have e := c.lft_succ i (i + n - (d + 1))
      rw [show i + n - (d + 1) + 1 = i + n - d by omega] at e
      have h3 := hl (i + n - (d + 1)) (by omega) (by omega)
      by_cases hd0 : d = 0
      · subst hd0
        rw [Nat.sub_zero, c.lft_end] at e
        rw [Nat.zero_add] at e h3 ⊢
        omega
      · have := ih (by omega) hl (by omega)
        omega
  by_cases hall : ∀ l, i < l → l < j → 0 < crv (x i) (y i) (x l) (y l)
  · have := asc (j - (i + 1)) (fun l h3 h4 => hall l h3 (by omega)) (by omega)
    rwa [show i + 1 + (j - (i + 1)) = j by omega] at this
  · obtain ⟨l, hl⟩ := Classical.not_forall.1 hall
    obtain ⟨hl1, hl⟩ := Classical.not_imp.1 hl
    obtain ⟨hl2, hl3⟩ := Classical.not_imp.1 hl
    have := desc (i + n - j) (Nat.le_refl _) (fun k hk1 hk2 => by
      have := h.keepsAll hi hl1 (by omega) (k - l) (by omega) (by omega)
      rwa [show l + (k - l) = k by omega] at this) (by omega)
    rwa [show i + n - (i + n - j) = j by omega] at this


/-! ## Once around: the count of the passages to the upper half -/

theorem least_of {Q : Nat → Prop} : ∀ N, Q N → ∃ m, m ≤ N ∧ Q m ∧ ∀ j, j < m → ¬ Q j
  | 0, h => ⟨0, Nat.le_refl _, h, fun j hj => by omega⟩
  | N + 1, h => by
    by_cases h' : ∃ k, k ≤ N ∧ Q k
    · obtain ⟨k, hk, hq⟩ := h'
      obtain ⟨m, h1, h2, h3⟩ := least_of k hq
      exact ⟨m, by omega, h2, h3⟩
    · exact ⟨N + 1, Nat.le_refl _, h, fun j hj hq => h' ⟨j, by omega, hq⟩⟩
termination_by N => N
decreasing_by omega

theorem Chain.px {n : Nat} {u v x y : Nat → Int} (c : Chain n u v x y) (j : Nat) : x (j + n) = x j := by
  rw [c.dx, c.dx, show j + n + 1 = j + 1 + n by omega, c.pu, c.pu]
theorem Chain.py {n : Nat} {u v x y : Nat → Int} (c : Chain n u v x y) (j : Nat) : y (j + n) = y j := by
  rw [c.dy, c.dy, show j + n + 1 = j + 1 + n by omega, c.pv, c.pv]
theorem Chain.lft_per {n : Nat} {u v x y : Nat → Int} (c : Chain n u v x y) (i j : Nat) : Lft u v x y (i + n) (j + n) = Lft u v x y i j := by
  unfold Lft
  rw [c.px, c.py, c.pu, c.pu, c.pv, c.pv]
theorem Chain.shift {n : Nat} {u v x y : Nat → Int} (c : Chain n u v x y) (s : Nat) : Chain n (fun j => u (s + j)) (fun j => v (s + j)) (fun j => x (s + j)) (fun j => y (s + j)) :=
  ⟨fun j => by show u (s + (j + n)) = _; rw [← Nat.add_assoc]; exact c.pu (s + j), fun j => by show v (s + (j + n)) = _; rw [← Nat.add_assoc]; exact c.pv (s + j), fun j => c.dx (s + j), fun j => c.dy (s + j)⟩
theorem Chain.per_all {n : Nat} {u v x y : Nat → Int} (c : Chain n u v x y) (hn : 0 < n) {Q : Int → Int → Int → Int → Prop} (h : ∀ j, j < n → Q (x j) (y j) (x (j + 1)) (y (j + 1))) : ∀ j, Q (x j) (y j) (x (j + 1)) (y (j + 1)) := by
  intro j
  induction j using Nat.strongRecOn with
  | _ j ih =>
    rcases Nat.lt_or_ge j n with hj | hj
    · exact h j hj
    · have := ih (j - n) (by omega)
      rw [← c.px, ← c.py, ← c.px (j - n + 1), ← c.py (j - n + 1), show j - n + n = j by omega, show j - n + 1 + n = j + 1 by omega] at this
      exact this

/-- A chain that turns to the left everywhere, with one passage to the upper half. -/
theorem ring_of {n : Nat} {u v x y : Nat → Int} (c : Chain n u v x y) (hn : 0 < n) (hs : ∀ j, 0 < crv (x j) (y j) (x (j + 1)) (y (j + 1))) {t : Nat} (ht : t < n) (h1 : Dn (x t) (y t)) (h2 : Up (x (t + 1)) (y (t + 1)))
    (hu : ∀ i, i < n → Dn (x i) (y i) → Up (x (i + 1)) (y (i + 1)) → i = t) : ∃ m, Ring n m (fun j => x (t + 1 + j)) (fun j => y (t + 1 + j)) := by
  have hlast : Dn (x (t + 1 + (n - 1))) (y (t + 1 + (n - 1))) := by
    rw [show t + 1 + (n - 1) = t + n by omega, c.px, c.py]; exact h1
  obtain ⟨m, hm1, hm2, hm3⟩ := least_of (Q := fun j => Dn (x (t + 1 + j)) (y (t + 1 + j))) (n - 1) hlast
  have hm0 : 0 < m := by
    rcases Nat.eq_zero_or_pos m with h0 | h0
    · subst h0; exact absurd h2 (not_up hm2)
    · exact h0
  have hno : ∀ j, t + 1 ≤ j → j + 1 < t + 1 + n → Dn (x j) (y j) → Dn (x (j + 1)) (y (j + 1)) := by
    intro j hj1 hj2 hd
    refine dn_of fun hup => ?_
    rcases Nat.lt_or_ge j n with hj | hj
    · have := hu j hj hd hup; omega
    · have e1 := c.px (j - n); have e2 := c.py (j - n); have e3 := c.px (j - n + 1); have e4 := c.py (j - n + 1)
      rw [show j - n + n = j by omega] at e1 e2
      rw [show j - n + 1 + n = j + 1 by omega] at e3 e4
      rw [e1, e2] at hd
      rw [e3, e4] at hup
      have := hu (j - n) (by omega) hd hup; omega
  have hdn : ∀ d, m + d < n → Dn (x (t + 1 + (m + d))) (y (t + 1 + (m + d))) := by
    intro d
    induction d with
    | zero => intro _; exact hm2
    | succ d ih => intro hd; exact hno (t + 1 + (m + d)) (by omega) (by omega) (ih (by omega))
  refine ⟨m, hm0, by omega, fun j => by show x (t + 1 + (j + n)) = _; rw [← Nat.add_assoc]; exact c.px (t + 1 + j), fun j => by show y (t + 1 + (j + n)) = _; rw [← Nat.add_assoc]; exact c.py (t + 1 + j), fun j => hs (t + 1 + j), fun j hj => ?_, fun j hj1 hj2 => ?_⟩
  · rcases Classical.em (Up (x (t + 1 + j)) (y (t + 1 + j))) with h | h
    · exact h
    · exact absurd (dn_of h) (hm3 j hj)
  · have := hdn (j - m) (by omega)
    rw [show m + (j - m) = j by omega] at this
    exact this

theorem left_all {n : Nat} {u v x y : Nat → Int} (c : Chain n u v x y) (hn : 0 < n) (hs : ∀ j, 0 < crv (x j) (y j) (x (j + 1)) (y (j + 1))) {t : Nat} (ht : t < n) (h1 : Dn (x t) (y t)) (h2 : Up (x (t + 1)) (y (t + 1)))
    (hu : ∀ i, i < n → Dn (x i) (y i) → Up (x (i + 1)) (y (i + 1)) → i = t) : ∀ i j, i + 2 ≤ j → j ≤ i + n - 1 → 0 < Lft u v x y i j := by
  obtain ⟨m, hr⟩ := ring_of c hn hs ht h1 h2 hu
  have h3 : ∀ i, t + 1 ≤ i → ∀ j, i + 2 ≤ j → j ≤ i + n - 1 → 0 < Lft u v x y i j := by
    intro i
    induction i using Nat.strongRecOn with
    | _ i ih =>
      intro hi j hj1 hj2
      rcases Nat.lt_or_ge (i - (t + 1)) n with hin | hin
      · have := left_of (c.shift (t + 1)) hr hin (j := j - (t + 1)) (by omega) (by omega)
        unfold Lft at this ⊢
        simp only [] at this
        rw [show t + 1 + (i - (t + 1)) = i by omega, show t + 1 + (j - (t + 1)) = j by omega] at this
        exact this
      · have := ih (i - n) (by omega) (by omega) (j - n) (by omega) (by omega)
        rw [← c.lft_per, show i - n + n = i by omega, show j - n + n = j by omega] at this
        exact this
  intro i j hj1 hj2
  rw [← c.lft_per]
  exact h3 (i + n) (by omega) (j + n) (by omega) (by omega)

theorem up_add {a b c d : Int} (h1 : Up a b) (h2 : Up c d) : Up (a + c) (b + d) := by unfold Up at *; omega

theorem cone_up {a b c d e f : Int} (h1 : Up a b) (h2 : Up c d) (h : 0 < crv a b c d) (k1 : 0 < crv a b e f) (k2 : 0 < crv e f c d) : Up e f := by
  have key : f * crv a b c d = crv e f c d * b + crv a b e f * d := by unfold crv; grind
  have hb : 0 ≤ b := by unfold Up at h1; omega
  have hd : 0 ≤ d := by unfold Up at h2; omega
  have p1 : 0 ≤ crv e f c d * b := Int.mul_nonneg (by omega) hb
  have p2 : 0 ≤ crv a b e f * d := Int.mul_nonneg (by omega) hd
  left
  rcases Int.lt_or_le 0 b with hb' | hb'
  · have := Int.mul_pos k2 hb'
    exact pos_of_mul h (by omega)
  · rcases Int.lt_or_le 0 d with hd' | hd'
    · have := Int.mul_pos k1 hd'
      exact pos_of_mul h (by omega)
    · have e1 : b = 0 := by omega
      have e2 : d = 0 := by omega
      unfold crv at h
      rw [e1, e2] at h
      simp at h

section
variable {n : Nat} {u v x y : Nat → Int}
theorem Chain.lft_two (c : Chain n u v x y) (i : Nat) : Lft u v x y i (i + 2) = crv (x i) (y i) (x (i + 1)) (y (i + 1)) := by
  rw [show i + 2 = i + 1 + 1 by omega, c.lft_succ, c.lft_one, Int.zero_add]
/-- Behind a passage to the upper half lies the least point. -/
theorem low_point (c : Chain n u v x y) (hn : 3 ≤ n) (hl : ∀ i j, i + 2 ≤ j → j ≤ i + n - 1 → 0 < Lft u v x y i j) {i : Nat} (h1 : Dn (x i) (y i)) (h2 : Up (x (i + 1)) (y (i + 1))) {k : Nat} (hk1 : i + 1 < k) (hk2 : k ≤ i + n) :
    Up (u k - u (i + 1)) (v k - v (i + 1)) := by
  have hs := hl i (i + 2) (by omega) (by omega)
  rw [c.lft_two] at hs
  have hnz : ¬ (x i = 0 ∧ y i = 0) := crv_nz1 (c := x (i + 1)) (d := y (i + 1)) (by omega)
  have hneg := up_neg h1 hnz
  by_cases hka : k = i + 2
  · subst hka
    have e1 := c.dx (i + 1); have e2 := c.dy (i + 1)
    rw [show i + 1 + 1 = i + 2 by omega] at e1 e2
    rw [← e1, ← e2]; exact h2
  by_cases hkb : k = i + n
  · subst hkb
    rw [c.pu, c.pv]
    have e1 := c.dx i; have e2 := c.dy i
    rw [show u i - u (i + 1) = -(x i) by omega, show v i - v (i + 1) = -(y i) by omega]
    exact hneg
  have q1 := hl (i + 1) k (by omega) (by omega)
  have q2 := hl i k (by omega) (by omega)
  refine cone_up h2 hneg ?_ q1 ?_
  · rw [crv_neg2, crv_swap, Int.neg_neg]; exact hs
  · rw [crv_neg2, crv_swap, Int.neg_neg]
    have e : Lft u v x y i k = crv (x i) (y i) (u k - u (i + 1)) (v k - v (i + 1)) + crv (x i) (y i) (x i) (y i) := by
      unfold Lft crv; rw [c.dx i, c.dy i]; grind
    have e0 : crv (x i) (y i) (x i) (y i) = 0 := by unfold crv; grind
    omega

theorem once_uniq (c : Chain n u v x y) (hn : 3 ≤ n) (hl : ∀ i j, i + 2 ≤ j → j ≤ i + n - 1 → 0 < Lft u v x y i j) {i j : Nat} (hij : i < j) (hj : j < n) (h1 : Dn (x i) (y i)) (h2 : Up (x (i + 1)) (y (i + 1))) (h3 : Dn (x j) (y j)) (h4 : Up (x (j + 1)) (y (j + 1))) : False := by
  have a := low_point c hn hl h1 h2 (k := j + 1) (by omega) (by omega)
  have b := low_point c hn hl h3 h4 (k := i + 1 + n) (by omega) (by omega)
  rw [c.pu, c.pv] at b
  unfold Up at a b
  omega

theorem up_sum (c : Chain n u v x y) (i : Nat) : ∀ d, (∀ l, i ≤ l → l < i + (d + 1) → Up (x l) (y l)) → Up (u (i + (d + 1)) - u i) (v (i + (d + 1)) - v i)
  | 0, h => by
    have := h i (Nat.le_refl _) (by omega)
    rw [c.dx, c.dy] at this
    exact this
  | d + 1, h => by
    have h1 := up_sum c i d fun l h1 h2 => h l h1 (by omega)
    have h2 := h (i + (d + 1)) (by omega) (by omega)
    rw [c.dx, c.dy] at h2
    have := up_add h1 h2
    rw [show i + (d + 1 + 1) = i + (d + 1) + 1 by omega]
    rwa [show u (i + (d + 1)) - u i + (u (i + (d + 1) + 1) - u (i + (d + 1))) = u (i + (d + 1) + 1) - u i by omega, show v (i + (d + 1)) - v i + (v (i + (d + 1) + 1) - v (i + (d + 1))) = v (i + (d + 1) + 1) - v i by omega] at this
theorem dn_sum (c : Chain n u v x y) (i : Nat) : ∀ d, (∀ l, i ≤ l → l < i + (d + 1) → Up (-x l) (-y l)) → Up (u i - u (i + (d + 1))) (v i - v (i + (d + 1)))
  | 0, h => by
    have := h i (Nat.le_refl _) (by omega)
    rw [c.dx, c.dy] at this
    rwa [show -(u (i + 1) - u i) = u i - u (i + (0 + 1)) by rw [Nat.zero_add]; omega, show -(v (i + 1) - v i) = v i - v (i + (0 + 1)) by rw [Nat.zero_add]; omega] at this
  | d + 1, h => by
    have h1 := dn_sum c i d fun l h1 h2 => h l h1 (by omega)
    have h2 := h (i + (d + 1)) (by omega) (by omega)
    rw [c.dx, c.dy] at h2
    have := up_add h1 h2
    rw [show i + (d + 1 + 1) = i + (d + 1) + 1 by omega]
    rwa [show u i - u (i + (d + 1)) + -(u (i + (d + 1) + 1) - u (i + (d + 1))) = u i - u (i + (d + 1) + 1) by omega, show v i - v (i + (d + 1)) + -(v (i + (d + 1) + 1) - v (i + (d + 1))) = v i - v (i + (d + 1) + 1) by omega] at this

theorem once_ex (c : Chain n u v x y) (hn : 3 ≤ n) (hl : ∀ i j, i + 2 ≤ j → j ≤ i + n - 1 → 0 < Lft u v x y i j) : ∃ t, t < n ∧ Dn (x t) (y t) ∧ Up (x (t + 1)) (y (t + 1)) := by
  rcases Classical.em (∃ t, t < n ∧ Dn (x t) (y t) ∧ Up (x (t + 1)) (y (t + 1))) with h | h
  · exact h
  exfalso
  have hnz : ∀ j, ¬ (x j = 0 ∧ y j = 0) := fun j => by
    have hs := hl j (j + 2) (by omega) (by omega)
    rw [c.lft_two] at hs
    exact crv_nz1 (c := x (j + 1)) (d := y (j + 1)) (by omega)
  have hno : ∀ j, Dn (x j) (y j) → Dn (x (j + 1)) (y (j + 1)) :=
    c.per_all (Q := fun a b c d => Dn a b → Dn c d) (by omega) fun j hj hd => dn_of fun hu => h ⟨j, hj, hd, hu⟩
  rcases Classical.em (∃ i, Dn (x i) (y i)) with ⟨i, hi⟩ | hall
  · have hd : ∀ d, Dn (x (i + d)) (y (i + d)) := by
      intro d
      induction d with
      | zero => exact hi
      | succ d ih => exact hno (i + d) ih
    have := dn_sum c i (n - 1) fun l h1 h2 => by
      have := hd (l - i)
      rw [show i + (l - i) = l by omega] at this
      exact up_neg this (hnz l)
    rw [show i + (n - 1 + 1) = i + n by omega, c.pu, c.pv] at this
    unfold Up at this; omega
  · have := up_sum c 0 (n - 1) fun l _ _ => by
      rcases Classical.em (Up (x l) (y l)) with h | h
      · exact h
      · exact absurd ⟨l, dn_of h⟩ hall
    rw [show 0 + (n - 1 + 1) = 0 + n by omega, c.pu, c.pv] at this
    unfold Up at this; omega
end

/-! ## Counts -/

def cntB (f : Nat → Bool) : Nat → Nat
  | 0 => 0
  | k + 1 => cntB f k + (if f k = true then 1 else 0)
theorem cntB_zero {f : Nat → Bool} : ∀ k, cntB f k = 0 ↔ ∀ i, i < k → f i = false
  | 0 => ⟨fun _ i hi => by omega, fun _ => rfl⟩
  | k + 1 => by
    rw [cntB]
    constructor
    · intro h i hi
      cases hk : f k with
      | true => rw [hk] at h; simp at h
      | false =>
        rw [hk] at h
        rcases Nat.lt_or_ge i k with hik | hik
        · exact (cntB_zero k).1 (by simpa using h) i hik
        · have : i = k := by omega
          subst this; exact hk
    · intro h
      rw [(cntB_zero k).2 fun i hi => h i (by omega), h k (by omega)]; rfl
theorem cntB_one {f : Nat → Bool} : ∀ k, cntB f k = 1 ↔ ∃ t, t < k ∧ f t = true ∧ ∀ i, i < k → f i = true → i = t
  | 0 => ⟨fun h => absurd h (by simp [cntB]), fun ⟨t, h, _⟩ => absurd h (by omega)⟩
  | k + 1 => by
    rw [cntB]
    cases hk : f k with
    | true =>
      simp only [if_true]
      constructor
      · intro h
        have h0 := (cntB_zero (f := f) k).1 (by omega)
        refine ⟨k, by omega, hk, fun i hi hf => ?_⟩
        rcases Nat.lt_or_ge i k with hik | hik
        · rw [h0 i hik] at hf; cases hf
        · omega
      · rintro ⟨t, h1, h2, h3⟩
        have := h3 k (by omega) hk
        subst this
        rw [(cntB_zero k).2 fun i hi => ?_]
        cases hfi : f i with
        | false => rfl
        | true => have := h3 i (by omega) hfi; omega
    | false =>
      simp only [Bool.false_eq_true, if_false, Nat.add_zero]
      rw [cntB_one k]
      constructor
      · rintro ⟨t, h1, h2, h3⟩
        refine ⟨t, by omega, h2, fun i hi hf => ?_⟩
        rcases Nat.lt_or_ge i k with hik | hik
        · exact h3 i hik hf
        · have : i = k := by omega
          subst this; rw [hk] at hf; cases hf
      · rintro ⟨t, h1, h2, h3⟩
        refine ⟨t, ?_, h2, fun i hi hf => h3 i (by omega) hf⟩
        rcases Nat.lt_or_ge t k with htk | htk
        · exact htk
        · have : t = k := by omega
          subst this; rw [hk] at h2; cases h2

/-- Once around, just if all points are to the left. -/
theorem once_iff {n : Nat} {u v x y : Nat → Int} (c : Chain n u v x y) (hn : 3 ≤ n) {f : Nat → Bool} (hf : ∀ i, i < n → (f i = true ↔ Dn (x i) (y i) ∧ Up (x (i + 1)) (y (i + 1)))) :
    ((∀ i, i < n → 0 < Lft u v x y i (i + 2)) ∧ cntB f n = 1) ↔ (∀ i, i < n → ∀ j, i + 2 ≤ j → j ≤ i + n - 1 → 0 < Lft u v x y i j) := by
  constructor
  · rintro ⟨h1, h2⟩
    obtain ⟨t, ht, hft, hu⟩ := (cntB_one n).1 h2
    obtain ⟨h3, h4⟩ := (hf t ht).1 hft
    have := left_all c (by omega) (c.per_all (Q := fun a b c d => 0 < crv a b c d) (by omega) fun j hj => by have := h1 j hj; rw [c.lft_two] at this; exact this) ht h3 h4 fun i hi h5 h6 => hu i hi ((hf i hi).2 ⟨h5, h6⟩)
    exact fun i _ => this i
  · intro h
    have hl : ∀ i j, i + 2 ≤ j → j ≤ i + n - 1 → 0 < Lft u v x y i j := by
      intro i
      induction i using Nat.strongRecOn with
      | _ i ih =>
        intro j hj1 hj2
        rcases Nat.lt_or_ge i n with hi | hi
        · exact h i hi j hj1 hj2
        · have := ih (i - n) (by omega) (j - n) (by omega) (by omega)
          rwa [← c.lft_per, show i - n + n = i by omega, show j - n + n = j by omega] at this
    refine ⟨fun i hi => hl i (i + 2) (by omega) (by omega), (cntB_one n).2 ?_⟩
    obtain ⟨t, ht, h1, h2⟩ := once_ex c hn hl
    refine ⟨t, ht, (hf t ht).2 ⟨h1, h2⟩, fun i hi hfi => ?_⟩
    obtain ⟨h3, h4⟩ := (hf i hi).1 hfi
    rcases Nat.lt_trichotomy i t with hlt | heq | hgt
    · exact (once_uniq c hn hl hlt ht h3 h4 h1 h2).elim
    · exact heq
    · exact (once_uniq c hn hl hgt hi h1 h2 h3 h4).elim

end Go.Ev
