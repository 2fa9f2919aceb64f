/-
  Plain arithmetic: quotients rounded down, rests, the steps of Euclid with their factors, mates of points.
  Conditions: none.
-/
import Derived.Test.YtnjepaboecijcaaMath
set_option linter.unusedVariables false
set_option linter.unusedSimpArgs false
namespace Go.Ev

def floorF (a b : Int) : Int := selF (!decide (a.tmod b = 0) && !decide (decide (a < 0) = decide (b < 0))) (w64 (w64 (a.tdiv b) - 1)) (w64 (a.tdiv b))
def modF (a b : Int) : Int := w64 (a - w64 (b * floorF a b))
def restF (n x : Int) : Int := (w64 (x.tmod n + n)).tmod n

theorem tdiv_pos {a b : Int} (ha : 0 ≤ a) : a.tdiv b = a / b := Int.tdiv_eq_ediv_of_nonneg ha
theorem tmod_pos {a b : Int} (ha : 0 ≤ a) : a.tmod b = a % b := Int.tmod_eq_emod_of_nonneg ha
theorem tdiv_neg' {a b : Int} (ha : a < 0) : a.tdiv b = -((-a) / b) := by
  have : (-(-a)).tdiv b = -((-a).tdiv b) := Int.neg_tdiv ..
  rw [Int.neg_neg] at this
  rw [this, tdiv_pos (by omega)]
theorem tmod_neg' {a b : Int} (ha : a < 0) : a.tmod b = -((-a) % b) := by
  have : (-(-a)).tmod b = -((-a).tmod b) := Int.neg_tmod ..
  rw [Int.neg_neg] at this
  rw [this, tmod_pos (by omega)]

theorem ediv_bounds {a b : Int} (hb : 0 < b) : b * (a / b) ≤ a ∧ a < b * (a / b) + b := by
  have h1 := Int.mul_ediv_add_emod a b
  have h2 := Int.emod_nonneg a (show b ≠ 0 by omega)
  have h3 := Int.emod_lt_of_pos a hb
  omega
theorem ediv_uniq {a b q : Int} (hb : 0 < b) (h1 : b * q ≤ a) (h2 : a < b * q + b) : a / b = q := by
  have h3 := ediv_bounds (a := a) hb
  have h4 : ¬ a / b < q := fun h => by
    have : b * (a / b + 1) ≤ b * q := Int.mul_le_mul_of_nonneg_left (by omega) (by omega)
    rw [Int.mul_add] at this
    omega
  have h5 : ¬ q < a / b := fun h => by
    have : b * (q + 1) ≤ b * (a / b) := Int.mul_le_mul_of_nonneg_left (by omega) (by omega)
    rw [Int.mul_add] at this
    omega
  omega
theorem ediv_abs {a b m : Int} (hb : 0 < b) (h1 : -m ≤ a) (h2 : a ≤ m) : -m ≤ a / b ∧ a / b ≤ m := by
  have h3 := ediv_bounds (a := a) hb
  constructor
  · by_cases ha : 0 ≤ a
    · have := Int.ediv_nonneg ha (show 0 ≤ b by omega)
      omega
    · have : a / b ≥ a := by
        have h4 : ¬ a / b < a := fun h => by
          have : b * (a / b + 1) ≤ 1 * (a / b + 1) := by
            have := Int.mul_le_mul_of_nonneg_right (show 1 ≤ b by omega) (show 0 ≤ -(a / b + 1) by omega)
            rw [Int.mul_neg, Int.mul_neg] at this
            omega
          rw [Int.mul_add] at this
          omega
        omega
      omega
  · by_cases ha : 0 ≤ a
    · have : a / b ≤ a := Int.ediv_le_self _ ha
      omega
    · have : a / b < 0 := Int.ediv_neg_of_neg_of_pos (by omega) hb
      omega

theorem floorF_eq {a b : Int} (hb : 0 < b) (h1 : -4611686018427387904 ≤ a) (h2 : a ≤ 4611686018427387904) : floorF a b = a / b := by
  unfold floorF
  have hb0 : decide (b < 0) = false := decide_eq_false (by omega)
  by_cases ha : 0 ≤ a
  · have ha0 : decide (a < 0) = false := decide_eq_false (by omega)
    have hq := ediv_abs hb h1 h2
    rw [hb0, ha0, tdiv_pos ha, w64_in (n := a / b) (by omega) (by omega)]
    simp [selF]
  · have ha0 : decide (a < 0) = true := decide_eq_true (by omega)
    have hq := ediv_abs (a := -a) hb (by omega : -4611686018427387904 ≤ -a) (by omega)
    rw [hb0, ha0, tdiv_neg' (by omega), tmod_neg' (by omega), w64_in (n := -((-a) / b)) (by omega) (by omega)]
    have h3 := ediv_bounds (a := -a) hb
    have h4 := Int.mul_ediv_add_emod (-a) b
    by_cases hm : (-a) % b = 0
    · have : decide (-((-a) % b) = 0) = true := decide_eq_true (by omega)
      rw [this]
      simp only [selF, Bool.not_true, Bool.false_and]
      refine (ediv_uniq hb ?_ ?_).symm
      · rw [Int.mul_neg]; omega
      · rw [Int.mul_neg]; omega
    · have : decide (-((-a) % b) = 0) = false := decide_eq_false (by omega)
      rw [this]
      simp only [selF, Bool.not_false, Bool.true_and, Bool.true_eq_false, decide_false]
      rw [w64_in (by omega) (by omega)]
      have h5 := Int.emod_nonneg (-a) (show b ≠ 0 by omega)
      have h6 := Int.emod_lt_of_pos (-a) hb
      refine (ediv_uniq hb ?_ ?_).symm
      · rw [Int.mul_sub, Int.mul_neg]; omega
      · rw [Int.mul_sub, Int.mul_neg]; omega

theorem modF_eq {a b : Int} (hb : 0 < b) (hb2 : b ≤ 1152921504606846976) (h1 : -4611686018427387904 ≤ a) (h2 : a ≤ 4611686018427387904) : modF a b = a % b := by
  unfold modF
  rw [floorF_eq hb h1 h2]
  have h3 := Int.mul_ediv_add_emod a b
  have h4 := Int.emod_nonneg a (show b ≠ 0 by omega)
  have h5 := Int.emod_lt_of_pos a hb
  rw [w64_in (n := b * (a / b)) (by omega) (by omega), w64_in (by omega) (by omega)]
  omega

theorem emod_of {a b r : Int} (hb : 0 < b) (q : Int) (h : a = b * q + r) (h1 : 0 ≤ r) (h2 : r < b) : a % b = r := by
  have h3 : a / b = q := ediv_uniq hb (by omega) (by omega)
  have h4 := Int.mul_ediv_add_emod a b
  rw [h3] at h4
  omega

theorem restF_eq {n x : Int} (hn : 0 < n) (hn2 : n ≤ 1152921504606846976) : restF n x = x % n := by
  unfold restF
  by_cases hx : 0 ≤ x
  · have h1 := Int.emod_nonneg x (show n ≠ 0 by omega)
    have h2 := Int.emod_lt_of_pos x hn
    rw [tmod_pos hx, w64_in (n := x % n + n) (by omega) (by omega), tmod_pos (by omega)]
    exact emod_of hn 1 (by omega) h1 h2
  · have h1 := Int.emod_nonneg (-x) (show n ≠ 0 by omega)
    have h2 := Int.emod_lt_of_pos (-x) hn
    have h3 := Int.mul_ediv_add_emod (-x) n
    rw [tmod_neg' (a := x) (by omega), w64_in (n := -((-x) % n) + n) (by omega) (by omega), tmod_pos (by omega)]
    by_cases h0 : (-x) % n = 0
    · rw [h0]
      rw [emod_of hn (-((-x) / n)) (r := 0) (a := x) (by rw [Int.mul_neg]; omega) (by omega) (by omega)]
      exact emod_of hn 1 (by omega) (by omega) (by omega)
    · rw [emod_of hn (-((-x) / n) - 1) (r := n - (-x) % n) (a := x) (by rw [Int.mul_sub, Int.mul_neg]; omega) (by omega) (by omega)]
      exact emod_of hn 0 (by omega) (by omega) (by omega)

/-! ## The steps of Euclid with their factors -/

def bezL (r s x y : Int) : Int := if h : s = 0 then x else bezL s (r.tmod s) y (x - r.tdiv s * y)
termination_by s.natAbs
decreasing_by exact tmod_lt h
theorem bezL_zero (r x y : Int) : bezL r 0 x y = x := by unfold bezL; simp
theorem bezL_step {r s x y : Int} (h : s ≠ 0) : bezL r s x y = bezL s (r.tmod s) y (x - r.tdiv s * y) := by rw [bezL]; simp [h]

structure BInv (m r s x y : Int) : Prop where
  r0 : 0 ≤ r
  s0 : 0 ≤ s
  rm : r ≤ m
  sm : s ≤ m
  mm : m ≤ 1000000000
  ex : ∃ X Y : Int, 0 ≤ X ∧ 0 ≤ Y ∧ X ≤ m ∧ Y ≤ m ∧ X * s + Y * r ≤ m ∧ ((x = X ∧ y = -Y) ∨ (x = -X ∧ y = Y))

theorem mul_le_of {a b m : Int} (ha : 0 ≤ a) (hb : 1 ≤ b) (h : a * b ≤ m) : a ≤ m := by
  have : a * 1 ≤ a * b := Int.mul_le_mul_of_nonneg_left hb ha
  omega

theorem BInv.le {m r s x y : Int} (h : BInv m r s x y) : -m ≤ x ∧ x ≤ m ∧ -m ≤ y ∧ y ≤ m := by
  obtain ⟨X, Y, h1, h2, h3, h4, _, h6⟩ := h.ex
  rcases h6 with ⟨rfl, rfl⟩ | ⟨rfl, rfl⟩ <;> omega

theorem BInv.next {m r s x y : Int} (h : BInv m r s x y) (hs : s ≠ 0) :
    BInv m s (r.tmod s) y (x - r.tdiv s * y) ∧ w64 (r - w64 (w64 (r.tdiv s) * s)) = r.tmod s ∧ w64 (x - w64 (w64 (r.tdiv s) * y)) = x - r.tdiv s * y := by
  obtain ⟨X, Y, hX, hY, hXm, hYm, hsum, hxy⟩ := h.ex
  have hr0 := h.r0
  have hs0 : 0 < s := by have := h.s0; omega
  have hrm := h.rm
  have hsm := h.sm
  have hmm := h.mm
  rw [tdiv_pos hr0, tmod_pos hr0]
  have hd := Int.mul_ediv_add_emod r s
  have h1 := Int.emod_nonneg r hs
  have h2 := Int.emod_lt_of_pos r hs0
  have hq0 : 0 ≤ r / s := Int.ediv_nonneg hr0 (by omega)
  have hqr : r / s ≤ r := Int.ediv_le_self _ hr0
  generalize hq : r / s = q at *
  have hqY : 0 ≤ q * Y := Int.mul_nonneg hq0 hY
  have hrs : r % s = r - q * s := by rw [Int.mul_comm q s]; omega
  have e1 : Y * (r % s) + (X + q * Y) * s = X * s + Y * r := by
    rw [hrs, Int.mul_sub, Int.add_mul]
    have : Y * (q * s) = q * Y * s := by rw [← Int.mul_assoc, Int.mul_comm Y q]
    omega
  have h5 : 0 ≤ Y * (r % s) := Int.mul_nonneg hY h1
  have h6 : X + q * Y ≤ m := mul_le_of (by omega) (show 1 ≤ s by omega) (by omega)
  have hqs : 0 ≤ q * s := Int.mul_nonneg hq0 (by omega)
  refine ⟨⟨by omega, h1, hsm, by omega, hmm, Y, X + q * Y, hY, by omega, hYm, h6, by omega, ?_⟩, ?_, ?_⟩
  · rcases hxy with ⟨hx, hy⟩ | ⟨hx, hy⟩
    · right; refine ⟨hy, ?_⟩; rw [hx, hy, Int.mul_neg]; omega
    · left; refine ⟨hy, ?_⟩; rw [hx, hy]; omega
  · rw [w64_in (n := q) (by omega) (by omega), w64_in (n := q * s) (by omega) (by omega), w64_in (by omega) (by omega)]
    omega
  · rw [w64_in (n := q) (by omega) (by omega)]
    rcases hxy with ⟨hx, hy⟩ | ⟨hx, hy⟩
    · rw [hx, hy, Int.mul_neg, w64_in (n := -(q * Y)) (by omega) (by omega), w64_in (by omega) (by omega)]
    · rw [hx, hy, w64_in (n := q * Y) (by omega) (by omega), w64_in (by omega) (by omega)]

theorem bezL_le : ∀ (n : Nat) {m r s x y : Int}, s.natAbs ≤ n → BInv m r s x y → -m ≤ bezL r s x y ∧ bezL r s x y ≤ m
  | 0, m, r, s, x, y, hn, h => by
    have : s = 0 := by omega
    subst this
    rw [bezL_zero]
    have := h.le
    omega
  | n + 1, m, r, s, x, y, hn, h => by
    by_cases hs : s = 0
    · subst hs
      rw [bezL_zero]
      have := h.le
      omega
    · rw [bezL_step hs]
      exact bezL_le n (by have := tmod_lt (a := r) hs; omega) (h.next hs).1

/-- The number 'bezout' gets to ahead of its last rest. -/
def bezF (a m : Int) : Int := bezL (a % m) m 1 0

structure BezOk (a m : Int) : Prop where
  pos : 0 < m
  le : m ≤ 1000000000
  a1 : -1000000000 ≤ a
  a2 : a ≤ 1000000000

theorem BezOk.start {a m : Int} (h : BezOk a m) : BInv m (a % m) m 1 0 := by
  have h0 := h.pos
  have h1 := Int.emod_nonneg a (show m ≠ 0 by omega)
  have h2 := Int.emod_lt_of_pos a h0
  exact ⟨h1, by omega, by omega, by omega, h.le, 1, 0, by omega, by omega, by omega, by omega, by omega, .inl ⟨rfl, rfl⟩⟩
theorem BezOk.start' {a m : Int} (h : BezOk a m) : BInv m (modF a m) m 1 0 ∧ bezL (modF a m) m 1 0 = bezF a m := by
  have h0 := h.pos
  have h1 := h.le
  have h2 := h.a1
  have h3 := h.a2
  rw [modF_eq h0 (by omega) (by omega) (by omega)]
  exact ⟨h.start, rfl⟩
theorem BezOk.bound {a m : Int} (h : BezOk a m) : -m ≤ bezF a m ∧ bezF a m ≤ m := bezL_le _ (Nat.le_refl _) h.start

theorem bez_next {m r s x y g : Int} (h : BInv m r s x y ∧ bezL r s x y = g) (hs : s ≠ 0) :
    BInv m s (w64 (r - w64 (w64 (r.tdiv s) * s))) y (w64 (x - w64 (w64 (r.tdiv s) * y))) ∧ bezL s (w64 (r - w64 (w64 (r.tdiv s) * s))) y (w64 (x - w64 (w64 (r.tdiv s) * y))) = g := by
  obtain ⟨h1, h2, h3⟩ := h.1.next hs
  rw [h2, h3]
  exact ⟨h1, by rw [← bezL_step hs]; exact h.2⟩
theorem bez_lt {m r s x y g : Int} (h : BInv m r s x y ∧ bezL r s x y = g) (hs : s ≠ 0) : (w64 (r - w64 (w64 (r.tdiv s) * s))).natAbs < s.natAbs := by
  rw [(h.1.next hs).2.1]
  exact tmod_lt hs
theorem bez_end {a m r s x y : Int} (ha : BezOk a m) (h : BInv m r s x y ∧ bezL r s x y = bezF a m) (hs : decide (s = 0) = true) : x = bezF a m := by
  have := eq_of_dec hs
  subst this
  rw [← h.2, bezL_zero]
theorem bez_mod {a m r s x y : Int} (ha : BezOk a m) (h : BInv m r s x y ∧ bezL r s x y = bezF a m) (hs : decide (s = 0) = true) : modF x m = bezF a m % m := by
  rw [bez_end ha h hs]
  have := ha.bound
  have := ha.pos
  have := ha.le
  exact modF_eq (by omega) (by omega) (by omega) (by omega)

/-! ## Mates -/

def mateX (a b : Int) : Int := if a = 0 then -b else (-(bezF b a.natAbs)) % a.natAbs
def mateY (a b : Int) : Int := if a = 0 then 0 else (1 + b * mateX a b).tdiv a

theorem neg_mod_mod {x n : Int} (hn : 0 < n) : (-(x % n)) % n = (-x) % n := by
  have h1 := Int.mul_ediv_add_emod x n
  have h2 := Int.mul_ediv_add_emod (-(x % n)) n
  refine (emod_of hn (-(x / n) + (-(x % n)) / n) ?_ (Int.emod_nonneg _ (by omega)) (Int.emod_lt_of_pos _ hn)).symm
  rw [Int.mul_add, Int.mul_neg]
  omega

theorem pt_bez {a b : Int} (h : isPtF a b = true) (ha : a ≠ 0) : BezOk b a.natAbs := by
  rw [isPtF_iff] at h
  exact ⟨by omega, by omega, by omega, by omega⟩
theorem pt_size {a b : Int} (h : isPtF a b = true) : sizeF a = a.natAbs := by
  rw [isPtF_iff] at h
  exact sizeF_abs (by omega) (by omega)
theorem mateX_le {a b : Int} (h : isPtF a b = true) (ha : a ≠ 0) : 0 ≤ mateX a b ∧ mateX a b < a.natAbs := by
  unfold mateX
  rw [if_neg ha]
  exact ⟨Int.emod_nonneg _ (by omega), Int.emod_lt_of_pos _ (by omega)⟩

theorem mul_abs_le {x y m n : Int} (hx1 : -m ≤ x) (hx2 : x ≤ m) (hy1 : 0 ≤ y) (hy2 : y ≤ n) (hm : 0 ≤ m) : -(m * n) ≤ x * y ∧ x * y ≤ m * n := by
  have h1 : x * y ≤ m * y := Int.mul_le_mul_of_nonneg_right hx2 hy1
  have h2 : m * y ≤ m * n := Int.mul_le_mul_of_nonneg_left hy2 hm
  have h3 : -m * y ≤ x * y := Int.mul_le_mul_of_nonneg_right hx1 hy1
  rw [Int.neg_mul] at h3
  omega

theorem mate_prod {a b : Int} (h : isPtF a b = true) (ha : a ≠ 0) : -(1000000 * ((a.natAbs : Int) - 1)) ≤ b * mateX a b ∧ b * mateX a b ≤ 1000000 * ((a.natAbs : Int) - 1) := by
  have h1 := mateX_le h ha
  rw [isPtF_iff] at h
  exact mul_abs_le (by omega) (by omega) h1.1 (by omega) (by omega)

theorem tdiv_abs_le {a b : Int} {k : Nat} (hb : b ≠ 0) (h : a.natAbs ≤ k * b.natAbs) : (a.tdiv b).natAbs ≤ k := by
  rw [Int.natAbs_tdiv]
  exact Nat.div_le_of_le_mul (by rw [Nat.mul_comm]; exact h)

theorem mate_pt {a b : Int} (h : isPtF a b = true) : isPtF (mateX a b) (mateY a b) = true := by
  have h' := isPtF_iff.1 h
  rw [isPtF_iff]
  by_cases ha : a = 0
  · unfold mateY mateX
    rw [if_pos ha, if_pos ha]
    omega
  · have h1 := mateX_le h ha
    have h2 := mate_prod h ha
    have h3 : (mateY a b).natAbs ≤ 1000000 := by
      unfold mateY
      rw [if_neg ha]
      exact tdiv_abs_le ha (by omega)
    omega

theorem mate_nz {a b : Int} (h : isPtF a b = true) (ha : decide (a = 0) = false) : decide (sizeF a = 0) = false := by
  have := ne_of_dec ha
  rw [pt_size h]
  exact decide_eq_false (by omega)
theorem mate_bez {a b : Int} (h : isPtF a b = true) (ha : decide (a = 0) = false) : BezOk b (sizeF a) := by
  rw [pt_size h]
  exact pt_bez h (ne_of_dec ha)
theorem mate_x {a b : Int} (h : isPtF a b = true) (ha : decide (a = 0) = false) : modF (w64 (0 - bezF b (sizeF a) % sizeF a)) (sizeF a) = mateX a b := by
  have hb := mate_bez h ha
  have h1 := hb.pos
  have h2 := hb.le
  have h3 := Int.emod_nonneg (bezF b (sizeF a)) (show sizeF a ≠ 0 by omega)
  have h4 := Int.emod_lt_of_pos (bezF b (sizeF a)) h1
  rw [w64_in (by omega) (by omega), modF_eq h1 (by omega) (by omega) (by omega), Int.zero_sub, neg_mod_mod h1, pt_size h]
  unfold mateX
  rw [if_neg (ne_of_dec ha)]
theorem mate_x' {a b : Int} (h : isPtF a b = true) (ha : decide (a = 0) = false) : restF (sizeF a) (w64 (0 - bezF b (sizeF a))) = mateX a b := by
  have hb := mate_bez h ha
  have h1 := hb.pos
  have h2 := hb.le
  have h3 := hb.bound
  rw [w64_in (by omega) (by omega), restF_eq h1 (by omega), Int.zero_sub, pt_size h]
  unfold mateX
  rw [if_neg (ne_of_dec ha)]
theorem mate_y {a b : Int} (h : isPtF a b = true) (ha : decide (a = 0) = false) : w64 ((w64 (1 + w64 (b * mateX a b))).tdiv a) = mateY a b := by
  have h1 := mate_prod h (ne_of_dec ha)
  have h2 := isPtF_iff.1 (mate_pt h)
  have h3 := isPtF_iff.1 h
  have e : mateY a b = (1 + b * mateX a b).tdiv a := by unfold mateY; rw [if_neg (ne_of_dec ha)]
  rw [w64_in (n := b * mateX a b) (by omega) (by omega), w64_in (n := 1 + b * mateX a b) (by omega) (by omega), ← e, w64_in (by omega) (by omega)]
theorem mate_0x {a b : Int} (h : isPtF a b = true) (ha : decide (a = 0) = true) : w64 (0 - b) = mateX a b := by
  have h3 := isPtF_iff.1 h
  unfold mateX
  rw [if_pos (eq_of_dec ha), w64_in (by omega) (by omega)]
  omega
theorem mate_0y {a b : Int} (ha : decide (a = 0) = true) : mateY a b = 0 := by
  unfold mateY
  rw [if_pos (eq_of_dec ha)]
abbrev pair (a b : Int) : Value := .agg #[.int .i64 a, .int .i64 b]
theorem mate_fin {a b : Int} (h : isPtF a b = true) (ha : decide (a = 0) = false) :
    pair (modF (w64 (0 - bezF b (sizeF a) % sizeF a)) (sizeF a)) (w64 ((w64 (1 + w64 (b * modF (w64 (0 - bezF b (sizeF a) % sizeF a)) (sizeF a)))).tdiv a)) = pair (mateX a b) (mateY a b) := by
  rw [mate_x h ha, mate_y h ha]
theorem mate_fin' {a b r s x y : Int} (h : isPtF a b = true) (ha : decide (a = 0) = false) (hI : BInv (sizeF a) r s x y ∧ bezL r s x y = bezF b (sizeF a)) (hs : decide (s = 0) = true) :
    pair (restF (sizeF a) (w64 (0 - x))) (w64 ((w64 (1 + w64 (b * restF (sizeF a) (w64 (0 - x))))).tdiv a)) = pair (mateX a b) (mateY a b) := by
  rw [bez_end (mate_bez h ha) hI hs, mate_x' h ha, mate_y h ha]
theorem mate_fin0 {a b : Int} (h : isPtF a b = true) (ha : decide (a = 0) = true) : pair (w64 (0 - b)) 0 = pair (mateX a b) (mateY a b) := by
  rw [mate_0x h ha, mate_0y ha]
theorem mate_start {a b : Int} (h : isPtF a b = true) (ha : decide (a = 0) = false) : BInv (sizeF a) (restF (sizeF a) b) (sizeF a) 1 0 ∧ bezL (restF (sizeF a) b) (sizeF a) 1 0 = bezF b (sizeF a) := by
  have hb := mate_bez h ha
  have h1 := hb.pos
  have h2 := hb.le
  rw [restF_eq h1 (by omega)]
  exact ⟨hb.start, rfl⟩

end Go.Ev
