/-
  Tetrahedra: they have at least four spots; distances times lengths are volumes. The plain law. Conditions: none.
-/
import Derived.Test.YtndmkibdcfpddaaKM2
set_option linter.unusedVariables false
set_option linter.unusedSimpArgs false
namespace Go.Ev

/-! ### Sums -/
def sumR (f : Int → Int) : Nat → Int → Int
  | 0, _ => 0
  | n + 1, z => f z + sumR f n (z + 1)
theorem sumR_mono {f g : Int → Int} : ∀ (n : Nat) (z : Int), (∀ k, z ≤ k → k < z + n → f k ≤ g k) → sumR f n z ≤ sumR g n z
  | 0, _, _ => Int.le_refl _
  | n + 1, z, h => by
    have h1 := h z (by omega) (by omega)
    have h2 := sumR_mono n (z + 1) fun k h3 h4 => h k (by omega) (by omega)
    simp only [sumR]; omega
theorem sumR_add (f g : Int → Int) : ∀ (n : Nat) (z : Int), sumR (fun k => f k + g k) n z = sumR f n z + sumR g n z
  | 0, _ => rfl
  | n + 1, z => by
    have h2 := sumR_add f g n (z + 1)
    simp only [sumR]; omega
theorem sumR_le {f : Int → Int} {B : Int} : ∀ (n : Nat) (z : Int), (∀ k, f k ≤ B) → sumR f n z ≤ (n : Int) * B
  | 0, _, _ => by simp [sumR]
  | n + 1, z, h => by
    have h1 := h z
    have h2 := sumR_le n (z + 1) h
    simp only [sumR]
    have : ((n + 1 : Nat) : Int) * B = n * B + B := by rw [Int.natCast_add, Int.add_mul]; simp
    omega
theorem sumR_nn {f : Int → Int} : ∀ (n : Nat) (z : Int), (∀ k, 0 ≤ f k) → 0 ≤ sumR f n z
  | 0, _, _ => Int.le_refl _
  | n + 1, z, h => by
    have h1 := h z
    have h2 := sumR_nn n (z + 1) h
    simp only [sumR]; omega
theorem sumR_out {c : Int} (v : Int) : ∀ (n : Nat) (z : Int), c < z → sumR (fun k => if k = c then v else 0) n z = 0
  | 0, _, _ => rfl
  | n + 1, z, h => by
    simp only [sumR]
    rw [sumR_out v n (z + 1) (by omega), if_neg (by omega)]; rfl
theorem sumR_in {c : Int} (v : Int) : ∀ (n : Nat) (z : Int), z ≤ c → c < z + n → sumR (fun k => if k = c then v else 0) n z = v
  | 0, z, h1, h2 => by omega
  | n + 1, z, h1, h2 => by
    simp only [sumR]
    by_cases h : z = c
    · subst h
      rw [if_pos rfl, sumR_out v n (z + 1) (by omega)]; omega
    · rw [if_neg h, sumR_in v n (z + 1) (by omega) (by omega)]; omega
theorem foldR_sum {F : Int → Int → Int} {g : Int → Int} {B : Int} (hB : 0 ≤ B) (hg : ∀ k, 0 ≤ g k ∧ g k ≤ B) {C : Int} :
    ∀ (n : Nat) (z m : Int), (∀ k m, z ≤ k → 0 ≤ m → m ≤ C → F k m = m + g k) → 0 ≤ m → m + (n : Int) * B ≤ C → foldR F n z m = m + sumR g n z
  | 0, _, _, _, _, _ => by simp [foldR, sumR]
  | n + 1, z, m, h, hm, hc => by
    have e : ((n + 1 : Nat) : Int) * B = n * B + B := by rw [Int.natCast_add, Int.add_mul]; simp
    have hnn : 0 ≤ (n : Int) * B := Int.mul_nonneg (by omega) hB
    have h1 := hg z
    rw [foldR, h z m (by omega) hm (by omega), foldR_sum hB hg n (z + 1) _ (fun k m h2 h3 h4 => h k m (by omega) h3 h4) (by omega) (by omega), sumR]
    omega

def ind (b : Bool) : Int := if b = true then 1 else 0
theorem ind_b (b : Bool) : 0 ≤ ind b ∧ ind b ≤ 1 := by unfold ind; split <;> omega
/-- The count without wrapping. -/
def num (p : Int → Int → Int → Bool) (lx hx ly hy lz hz : Int) : Int :=
  sumR (fun u => sumR (fun v => sumR (fun w => ind (p u v w)) (hz + 1 - lz).toNat lz) (hy + 1 - ly).toNat ly) (hx + 1 - lx).toNat lx

theorem sum_b {g : Int → Int} {B : Int} (h : ∀ k, 0 ≤ g k ∧ g k ≤ B) {lo hi : Int} (h1 : -20 ≤ lo) (h2 : hi ≤ 20) : 0 ≤ sumR g (hi + 1 - lo).toNat lo ∧ sumR g (hi + 1 - lo).toNat lo ≤ 41 * B := by
  refine ⟨sumR_nn _ _ fun k => (h k).1, Int.le_trans (sumR_le _ _ fun k => (h k).2) ?_⟩
  have := h 0
  exact Int.mul_le_mul_of_nonneg_right (by omega) (by omega)

theorem num_eq (p : Int → Int → Int → Bool) {lx hx ly hy lz hz : Int} (x1 : -20 ≤ lx) (x2 : hx ≤ 20) (y1 : -20 ≤ ly) (y2 : hy ≤ 20) (z1 : -20 ≤ lz) (z2 : hz ≤ 20) :
    cxF p lx hx ly hy lz hz 0 = num p lx hx ly hy lz hz := by
  have hz_ : ∀ u v m, 0 ≤ m → m ≤ 1000000 → czF p lz hz u v m = m + sumR (fun w => ind (p u v w)) (hz + 1 - lz).toNat lz := by
    intro u v m h1 h2
    refine foldR_sum (B := 1) (C := 2000000) (by omega) (fun k => ind_b _) _ _ _ (fun k m _ h3 h4 => ?_) h1 (by omega)
    unfold ind
    split
    · rw [w64_in (by omega) (by omega)]
    · omega
  have bz : ∀ u v, 0 ≤ sumR (fun w => ind (p u v w)) (hz + 1 - lz).toNat lz ∧ sumR (fun w => ind (p u v w)) (hz + 1 - lz).toNat lz ≤ 41 * 1 := fun u v => sum_b (fun k => ind_b _) z1 z2
  have hy_ : ∀ u m, 0 ≤ m → m ≤ 500000 → cyF p ly hy lz hz u m = m + sumR (fun v => sumR (fun w => ind (p u v w)) (hz + 1 - lz).toNat lz) (hy + 1 - ly).toNat ly := by
    intro u m h1 h2
    exact foldR_sum (B := 41) (C := 1000000) (by omega) (fun k => bz u k) _ _ _ (fun k m _ h3 h4 => hz_ u k m h3 h4) h1 (by omega)
  have by_ : ∀ u, 0 ≤ sumR (fun v => sumR (fun w => ind (p u v w)) (hz + 1 - lz).toNat lz) (hy + 1 - ly).toNat ly ∧ sumR (fun v => sumR (fun w => ind (p u v w)) (hz + 1 - lz).toNat lz) (hy + 1 - ly).toNat ly ≤ 41 * (41 * 1) :=
    fun u => sum_b (fun k => bz u k) y1 y2
  unfold cxF num
  rw [foldR_sum (B := 1681) (C := 500000) (by omega) (fun k => by_ k) _ _ _ (fun k m _ h3 h4 => hy_ k m h3 h4) (by omega) (by omega)]
  omega

/-- One spot is counted once. -/
def isAt (a b c u v w : Int) : Bool := decide (u = a) && decide (v = b) && decide (w = c)
def one3 (a b c lx hx ly hy lz hz : Int) : Int :=
  sumR (fun u => sumR (fun v => sumR (fun w => ind (isAt a b c u v w)) (hz + 1 - lz).toNat lz) (hy + 1 - ly).toNat ly) (hx + 1 - lx).toNat lx
theorem one3_eq {a b c lx hx ly hy lz hz : Int} (x1 : lx ≤ a) (x2 : a ≤ hx) (y1 : ly ≤ b) (y2 : b ≤ hy) (z1 : lz ≤ c) (z2 : c ≤ hz) : one3 a b c lx hx ly hy lz hz = 1 := by
  unfold one3
  have ez : ∀ u v, sumR (fun w => ind (isAt a b c u v w)) (hz + 1 - lz).toNat lz = if v = b then (if u = a then 1 else 0) else 0 := by
    intro u v
    have := sumR_in (c := c) (if v = b then (if u = a then 1 else 0) else 0) (hz + 1 - lz).toNat lz z1 (by omega)
    rw [← this]
    congr 1
    funext w
    unfold ind isAt
    by_cases h1 : u = a <;> by_cases h2 : v = b <;> by_cases h3 : w = c <;> simp [h1, h2, h3]
  have ey : ∀ u, sumR (fun v => sumR (fun w => ind (isAt a b c u v w)) (hz + 1 - lz).toNat lz) (hy + 1 - ly).toNat ly = if u = a then 1 else 0 := by
    intro u
    simp only [ez]
    exact sumR_in (c := b) _ _ _ y1 (by omega)
  simp only [ey]
  exact sumR_in (c := a) 1 _ _ x1 (by omega)

theorem four_le {p : Int → Int → Int → Bool} {lx hx ly hy lz hz a b c d e f g h i x y z : Int}
    (hp : ∀ u v w, ind (isAt a b c u v w) + ind (isAt d e f u v w) + ind (isAt g h i u v w) + ind (isAt x y z u v w) ≤ ind (p u v w))
    (b1 : lx ≤ a ∧ a ≤ hx ∧ ly ≤ b ∧ b ≤ hy ∧ lz ≤ c ∧ c ≤ hz) (b2 : lx ≤ d ∧ d ≤ hx ∧ ly ≤ e ∧ e ≤ hy ∧ lz ≤ f ∧ f ≤ hz)
    (b3 : lx ≤ g ∧ g ≤ hx ∧ ly ≤ h ∧ h ≤ hy ∧ lz ≤ i ∧ i ≤ hz) (b4 : lx ≤ x ∧ x ≤ hx ∧ ly ≤ y ∧ y ≤ hy ∧ lz ≤ z ∧ z ≤ hz) : 4 ≤ num p lx hx ly hy lz hz := by
  have e1 := one3_eq b1.1 b1.2.1 b1.2.2.1 b1.2.2.2.1 b1.2.2.2.2.1 b1.2.2.2.2.2
  have e2 := one3_eq b2.1 b2.2.1 b2.2.2.1 b2.2.2.2.1 b2.2.2.2.2.1 b2.2.2.2.2.2
  have e3 := one3_eq b3.1 b3.2.1 b3.2.2.1 b3.2.2.2.1 b3.2.2.2.2.1 b3.2.2.2.2.2
  have e4 := one3_eq b4.1 b4.2.1 b4.2.2.1 b4.2.2.2.1 b4.2.2.2.2.1 b4.2.2.2.2.2
  have key : one3 a b c lx hx ly hy lz hz + one3 d e f lx hx ly hy lz hz + one3 g h i lx hx ly hy lz hz + one3 x y z lx hx ly hy lz hz ≤ num p lx hx ly hy lz hz := by
    unfold one3 num
    rw [← sumR_add, ← sumR_add, ← sumR_add]
    refine sumR_mono _ _ fun u _ _ => ?_
    rw [← sumR_add, ← sumR_add, ← sumR_add]
    refine sumR_mono _ _ fun v _ _ => ?_
    rw [← sumR_add, ← sumR_add, ← sumR_add]
    exact sumR_mono _ _ fun w _ _ => hp u v w
  omega

/-! ### Corners -/
theorem tv01 {a b c g h i x y z : Int} (k : TetOk a b c a b c g h i x y z) : tvF a b c a b c g h i x y z = 0 := by
  rw [(tv_eq k).1]
  have : volP (a - a) (b - b) (c - c) (g - a) (h - b) (i - c) (x - a) (y - b) (z - c) = 0 := by unfold volP; grind
  rw [this]; rfl
theorem tv02 {a b c d e f x y z : Int} (k : TetOk a b c d e f a b c x y z) : tvF a b c d e f a b c x y z = 0 := by
  rw [(tv_eq k).1]
  have : volP (d - a) (e - b) (f - c) (a - a) (b - b) (c - c) (x - a) (y - b) (z - c) = 0 := by unfold volP; grind
  rw [this]; rfl
theorem tv03 {a b c d e f g h i : Int} (k : TetOk a b c d e f g h i a b c) : tvF a b c d e f g h i a b c = 0 := by
  rw [(tv_eq k).1]
  have : volP (d - a) (e - b) (f - c) (g - a) (h - b) (i - c) (a - a) (b - b) (c - c) = 0 := by unfold volP; grind
  rw [this]; rfl
theorem tv12 {a b c d e f x y z : Int} (k : TetOk a b c d e f d e f x y z) : tvF a b c d e f d e f x y z = 0 := by
  rw [(tv_eq k).1]
  have : volP (d - a) (e - b) (f - c) (d - a) (e - b) (f - c) (x - a) (y - b) (z - c) = 0 := by unfold volP; grind
  rw [this]; rfl
theorem tv13 {a b c d e f g h i : Int} (k : TetOk a b c d e f g h i d e f) : tvF a b c d e f g h i d e f = 0 := by
  rw [(tv_eq k).1]
  have : volP (d - a) (e - b) (f - c) (g - a) (h - b) (i - c) (d - a) (e - b) (f - c) = 0 := by unfold volP; grind
  rw [this]; rfl
theorem tv23 {a b c d e f g h i : Int} (k : TetOk a b c d e f g h i g h i) : tvF a b c d e f g h i g h i = 0 := by
  rw [(tv_eq k).1]
  have : volP (d - a) (e - b) (f - c) (g - a) (h - b) (i - c) (g - a) (h - b) (i - c) = 0 := by unfold volP; grind
  rw [this]; rfl
theorem tv_b {a b c d e f g h i x y z : Int} (k : TetOk a b c d e f g h i x y z) : 0 ≤ tvF a b c d e f g h i x y z ∧ tvF a b c d e f g h i x y z ≤ 384000 := by
  have h1 := tv_eq k
  have h2 := h1.2
  unfold sm at h2
  rw [h1.1]; omega
theorem has0 {a b c d e f g h i x y z : Int} (k : TetOk a b c d e f g h i x y z) : hasF a b c d e f g h i x y z a b c = true := by
  have b := tv_b k
  unfold hasF partsF
  rw [tv01 ⟨k.s0, k.s0, k.s2, k.s3⟩, tv02 ⟨k.s0, k.s1, k.s0, k.s3⟩, tv03 ⟨k.s0, k.s1, k.s2, k.s0⟩]
  simp only [Int.zero_add, Int.add_zero, w64_w64, decide_eq_true_eq]
  exact w64_in (by omega) (by omega)
theorem has1 {a b c d e f g h i x y z : Int} (k : TetOk a b c d e f g h i x y z) : hasF a b c d e f g h i x y z d e f = true := by
  have b := tv_b k
  unfold hasF partsF
  rw [tv01 ⟨k.s1, k.s1, k.s2, k.s3⟩, tv12 ⟨k.s0, k.s1, k.s1, k.s3⟩, tv13 ⟨k.s0, k.s1, k.s2, k.s1⟩]
  simp only [Int.zero_add, Int.add_zero, w64_w64, decide_eq_true_eq]
  rw [show w64 0 = 0 from rfl, Int.zero_add]
  exact w64_in (by omega) (by omega)
theorem has2 {a b c d e f g h i x y z : Int} (k : TetOk a b c d e f g h i x y z) : hasF a b c d e f g h i x y z g h i = true := by
  have b := tv_b k
  unfold hasF partsF
  rw [tv02 ⟨k.s2, k.s1, k.s2, k.s3⟩, tv12 ⟨k.s0, k.s2, k.s2, k.s3⟩, tv23 ⟨k.s0, k.s1, k.s2, k.s2⟩]
  simp only [Int.zero_add, Int.add_zero, w64_w64, decide_eq_true_eq]
  rw [show w64 0 = 0 from rfl, Int.zero_add]
  exact w64_in (by omega) (by omega)
theorem has3 {a b c d e f g h i x y z : Int} (k : TetOk a b c d e f g h i x y z) : hasF a b c d e f g h i x y z x y z = true := by
  have b := tv_b k
  unfold hasF partsF
  rw [tv03 ⟨k.s3, k.s1, k.s2, k.s3⟩, tv13 ⟨k.s0, k.s3, k.s2, k.s3⟩, tv23 ⟨k.s0, k.s1, k.s3, k.s3⟩]
  simp only [Int.zero_add, Int.add_zero, w64_w64, decide_eq_true_eq]
  rw [show w64 0 = 0 from rfl, Int.zero_add]
  exact w64_in (by omega) (by omega)
theorem lo4_le (a d g x : Int) : lo4 a d g x ≤ a ∧ lo4 a d g x ≤ d ∧ lo4 a d g x ≤ g ∧ lo4 a d g x ≤ x := by
  unfold lo4 mini; split <;> split <;> split <;> omega
theorem hi4_ge (a d g x : Int) : a ≤ hi4 a d g x ∧ d ≤ hi4 a d g x ∧ g ≤ hi4 a d g x ∧ x ≤ hi4 a d g x := by
  unfold hi4 maxi; split <;> split <;> split <;> omega
theorem isAt_iff {a b c u v w : Int} : isAt a b c u v w = true ↔ u = a ∧ v = b ∧ w = c := by
  simp [isAt, and_assoc]
theorem tet_four {a b c d e f g h i x y z : Int} (h1 : isTetF a b c d e f g h i x y z = true) : 4 ≤ cntF (hasF a b c d e f g h i x y z) a b c d e f g h i x y z := by
  have k := tet_ok h1
  have hv : tvF a b c d e f g h i x y z ≠ 0 := by
    simp only [isTetF, Bool.and_eq_true, Bool.not_eq_true', decide_eq_false_iff_not] at h1; exact h1.2
  have n01 : ¬ (a = d ∧ b = e ∧ c = f) := by rintro ⟨rfl, rfl, rfl⟩; exact hv (tv01 k)
  have n02 : ¬ (a = g ∧ b = h ∧ c = i) := by rintro ⟨rfl, rfl, rfl⟩; exact hv (tv02 k)
  have n03 : ¬ (a = x ∧ b = y ∧ c = z) := by rintro ⟨rfl, rfl, rfl⟩; exact hv (tv03 k)
  have n12 : ¬ (d = g ∧ e = h ∧ f = i) := by rintro ⟨rfl, rfl, rfl⟩; exact hv (tv12 k)
  have n13 : ¬ (d = x ∧ e = y ∧ f = z) := by rintro ⟨rfl, rfl, rfl⟩; exact hv (tv13 k)
  have n23 : ¬ (g = x ∧ h = y ∧ i = z) := by rintro ⟨rfl, rfl, rfl⟩; exact hv (tv23 k)
  have p0 := k.b0; have p1 := k.b1; have p2 := k.b2
  unfold cntF
  rw [num_eq _ p0.1 p0.2.1 p1.1 p1.2.1 p2.1 p2.2.1]
  have la := lo4_le a d g x; have lb := lo4_le b e h y; have lc := lo4_le c f i z
  have ha := hi4_ge a d g x; have hb := hi4_ge b e h y; have hc := hi4_ge c f i z
  refine four_le (fun u v w => ?_) ⟨la.1, ha.1, lb.1, hb.1, lc.1, hc.1⟩ ⟨la.2.1, ha.2.1, lb.2.1, hb.2.1, lc.2.1, hc.2.1⟩
    ⟨la.2.2.1, ha.2.2.1, lb.2.2.1, hb.2.2.1, lc.2.2.1, hc.2.2.1⟩ ⟨la.2.2.2, ha.2.2.2, lb.2.2.2, hb.2.2.2, lc.2.2.2, hc.2.2.2⟩
  have key : ∀ (A B C D P : Bool), (A = true → P = true) → (B = true → P = true) → (C = true → P = true) → (D = true → P = true) →
      ¬ (A = true ∧ B = true) → ¬ (A = true ∧ C = true) → ¬ (A = true ∧ D = true) → ¬ (B = true ∧ C = true) → ¬ (B = true ∧ D = true) → ¬ (C = true ∧ D = true) →
      ind A + ind B + ind C + ind D ≤ ind P := by decide
  refine key _ _ _ _ _ ?_ ?_ ?_ ?_ ?_ ?_ ?_ ?_ ?_ ?_ <;> simp only [isAt_iff]
  · rintro ⟨rfl, rfl, rfl⟩; exact has0 k
  · rintro ⟨rfl, rfl, rfl⟩; exact has1 k
  · rintro ⟨rfl, rfl, rfl⟩; exact has2 k
  · rintro ⟨rfl, rfl, rfl⟩; exact has3 k
  · exact fun h_ => n01 ⟨h_.1.1.symm.trans h_.2.1, h_.1.2.1.symm.trans h_.2.2.1, h_.1.2.2.symm.trans h_.2.2.2⟩
  · exact fun h_ => n02 ⟨h_.1.1.symm.trans h_.2.1, h_.1.2.1.symm.trans h_.2.2.1, h_.1.2.2.symm.trans h_.2.2.2⟩
  · exact fun h_ => n03 ⟨h_.1.1.symm.trans h_.2.1, h_.1.2.1.symm.trans h_.2.2.1, h_.1.2.2.symm.trans h_.2.2.2⟩
  · exact fun h_ => n12 ⟨h_.1.1.symm.trans h_.2.1, h_.1.2.1.symm.trans h_.2.2.1, h_.1.2.2.symm.trans h_.2.2.2⟩
  · exact fun h_ => n13 ⟨h_.1.1.symm.trans h_.2.1, h_.1.2.1.symm.trans h_.2.2.1, h_.1.2.2.symm.trans h_.2.2.2⟩
  · exact fun h_ => n23 ⟨h_.1.1.symm.trans h_.2.1, h_.1.2.1.symm.trans h_.2.2.1, h_.1.2.2.symm.trans h_.2.2.2⟩

/-! ### What the functions answer -/
def cnE (a b c d e f g h i x y z : Int) : Int := selF (isTetF a b c d e f g h i x y z) 0 1
def cnV (a b c d e f g h i x y z : Int) : Int := selF (isTetF a b c d e f g h i x y z) (cntF (hasF a b c d e f g h i x y z) a b c d e f g h i x y z) 0
def emV (a b c d e f g h i x y z : Int) : Bool := isTetF a b c d e f g h i x y z && decide (cntF (hasF a b c d e f g h i x y z) a b c d e f g h i x y z = 4)
def vlV (a b c d e f g h i x y z : Int) : Int := selF (isTetF a b c d e f g h i x y z) (tvF a b c d e f g h i x y z) 0
theorem cn_four {a b c d e f g h i x y z : Int} (hE : cnE a b c d e f g h i x y z = 0) : 4 ≤ cnV a b c d e f g h i x y z := by
  unfold cnE cnV at *
  cases h1 : isTetF a b c d e f g h i x y z
  · rw [h1] at hE; cases hE
  · exact tet_four h1
theorem em_cn {a b c d e f g h i x y z : Int} (hE : cnE a b c d e f g h i x y z = 0) : emV a b c d e f g h i x y z = decide (cnV a b c d e f g h i x y z = 4) := by
  unfold cnE cnV emV at *
  cases h1 : isTetF a b c d e f g h i x y z
  · rw [h1] at hE; cases hE
  · rfl
theorem vl_one {a b c d e f g h i x y z : Int} (hE : cnE a b c d e f g h i x y z = 0) : 1 ≤ vlV a b c d e f g h i x y z := by
  unfold cnE vlV at *
  cases h1 : isTetF a b c d e f g h i x y z
  · rw [h1] at hE; cases hE
  · have := tv_b (tet_ok h1)
    simp only [isTetF, Bool.and_eq_true, Bool.not_eq_true', decide_eq_false_iff_not] at h1
    have := h1.2
    simp only [selF]; omega

/-! ### Distances -/
def csX (a b c d e f g h i : Int) : Int := crF (plusF e (-1) b) (plusF i (-1) c) (plusF f (-1) c) (plusF h (-1) b)
def csY (a b c d e f g h i : Int) : Int := crF (plusF f (-1) c) (plusF g (-1) a) (plusF d (-1) a) (plusF i (-1) c)
def csZ (a b c d e f g h i : Int) : Int := crF (plusF d (-1) a) (plusF h (-1) b) (plusF e (-1) b) (plusF g (-1) a)
def lnF (a b c : Int) : Int := gcdF (gcdF a b) c
def spsF (a b c d e f g h i x y z : Int) : Bool := isSpF a b c && isSpF d e f && isSpF g h i && isSpF x y z
def csF (a b c d e f g h i : Int) : Bool := decide (csX a b c d e f g h i = 0) && (decide (csY a b c d e f g h i = 0) && (decide (csZ a b c d e f g h i = 0) && true))
def dtF (a b c d e f g h i x y z : Int) : Int := volF (plusF d (-1) a) (plusF e (-1) b) (plusF f (-1) c) (plusF g (-1) a) (plusF h (-1) b) (plusF i (-1) c) (plusF x (-1) a) (plusF y (-1) b) (plusF z (-1) c)
def dsQ (a b c d e f g h i x y z : Int) : Int := w64 ((sizeF (dtF a b c d e f g h i x y z)).tdiv (lnF (csX a b c d e f g h i) (csY a b c d e f g h i) (csZ a b c d e f g h i)))
def dsE (a b c d e f g h i x y z : Int) : Int := selF (spsF a b c d e f g h i x y z) (selF (csF a b c d e f g h i) 5 0) 1
def dsV (a b c d e f g h i x y z : Int) : Int := selF (spsF a b c d e f g h i x y z) (selF (csF a b c d e f g h i) 0 (dsQ a b c d e f g h i x y z)) 0

theorem crF_sm {p q r s : Int} (hp : sm p 40) (hq : sm q 40) (hr : sm r 40) (hs : sm s 40) : crF p q r s = p * q - r * s ∧ sm (p * q - r * s) 3200 := by
  have h1 := sm_mul hp hq (by omega); have h2 := sm_mul hr hs (by omega)
  unfold sm at h1 h2 ⊢
  unfold crF
  rw [w64_in (n := p * q) (by omega) (by omega), w64_in (n := r * s) (by omega) (by omega), w64_in (by omega) (by omega)]
  omega
theorem lnF_eq {a b c : Int} (ha : sm a 3200) (hb : sm b 3200) (hc : sm c 3200) : lnF a b c = ((Int.gcd (Int.gcd a b : Int) c : Nat) : Int) := by
  unfold sm at *
  have h1 : gcdF a b = (Int.gcd a b : Int) := gcdF_eq (by omega) (by omega)
  unfold lnF
  rw [h1]
  refine gcdF_eq ?_ (by omega)
  by_cases h : a = 0
  · subst h; simp; omega
  · have := Nat.gcd_le_left (n := b.natAbs) (m := a.natAbs) (by omega)
    have e : Int.gcd a b = Nat.gcd a.natAbs b.natAbs := rfl
    rw [e]; simp only [Int.natAbs_natCast]; omega
theorem gcd3_dvd (a b c : Int) : ((Int.gcd (Int.gcd a b : Int) c : Nat) : Int) ∣ a ∧ ((Int.gcd (Int.gcd a b : Int) c : Nat) : Int) ∣ b ∧ ((Int.gcd (Int.gcd a b : Int) c : Nat) : Int) ∣ c := by
  have h1 : ((Int.gcd (Int.gcd a b : Int) c : Nat) : Int) ∣ (Int.gcd a b : Int) := Int.gcd_dvd_left ..
  exact ⟨Int.dvd_trans h1 (Int.gcd_dvd_left ..), Int.dvd_trans h1 (Int.gcd_dvd_right ..), Int.gcd_dvd_right ..⟩
theorem gcd3_pos {a b c : Int} (h : ¬ (a = 0 ∧ b = 0 ∧ c = 0)) : 0 < ((Int.gcd (Int.gcd a b : Int) c : Nat) : Int) := by
  rcases Int.lt_or_le 0 ((Int.gcd (Int.gcd a b : Int) c : Nat) : Int) with h1 | h1
  · exact h1
  · have h2 : ((Int.gcd (Int.gcd a b : Int) c : Nat) : Int) = 0 := by omega
    have h3 := gcd3_dvd a b c
    rw [h2] at h3
    exact absurd ⟨Int.zero_dvd.1 h3.1, Int.zero_dvd.1 h3.2.1, Int.zero_dvd.1 h3.2.2⟩ h

/-- What the distance's parts are. -/
structure DsOk (a b c d e f g h i x y z : Int) (X Y Z L V : Int) : Prop where
  kx : csX a b c d e f g h i = X
  ky : csY a b c d e f g h i = Y
  kz : csZ a b c d e f g h i = Z
  kl : lnF X Y Z = L
  kv : dtF a b c d e f g h i x y z = V
  sv : sm V 384000
  vp : L ∣ V
  lp : ¬ (X = 0 ∧ Y = 0 ∧ Z = 0) → 0 < L
  dot : dotF X Y Z (plusF x (-1) a) (plusF y (-1) b) (plusF z (-1) c) = V
  tv : tvF a b c d e f g h i x y z = V.natAbs
theorem spsF_ok {a b c d e f g h i x y z : Int} (h1 : spsF a b c d e f g h i x y z = true) : TetOk a b c d e f g h i x y z := by
  simp only [spsF, Bool.and_eq_true] at h1
  exact ⟨h1.1.1.1, h1.1.1.2, h1.1.2, h1.2⟩
theorem ds_ok {a b c d e f g h i x y z : Int} (h1 : spsF a b c d e f g h i x y z = true) : ∃ X Y Z L V, DsOk a b c d e f g h i x y z X Y Z L V := by
  have k := spsF_ok h1
  obtain ⟨ha, hb, hc⟩ := isSpF_iff.1 k.s0
  obtain ⟨hd, he, hf⟩ := isSpF_iff.1 k.s1
  obtain ⟨hg, hh, hi⟩ := isSpF_iff.1 k.s2
  obtain ⟨hx, hy, hz⟩ := isSpF_iff.1 k.s3
  have ed := plus_pt hd ha; have ee := plus_pt he hb; have ef := plus_pt hf hc
  have eg := plus_pt hg ha; have eh := plus_pt hh hb; have ei := plus_pt hi hc
  have ex := plus_pt hx ha; have ey := plus_pt hy hb; have ez := plus_pt hz hc
  have cX := crF_sm ee.2 ei.2 ef.2 eh.2
  have cY := crF_sm ef.2 eg.2 ed.2 ei.2
  have cZ := crF_sm ed.2 eh.2 ee.2 eg.2
  have vV := volF_pt ed.2 ee.2 ef.2 eg.2 eh.2 ei.2 ex.2 ey.2 ez.2
  have hX : csX a b c d e f g h i = (e - b) * (i - c) - (f - c) * (h - b) := by unfold csX; rw [ee.1, ei.1, ef.1, eh.1]; exact cX.1
  have hY : csY a b c d e f g h i = (f - c) * (g - a) - (d - a) * (i - c) := by unfold csY; rw [ef.1, eg.1, ed.1, ei.1]; exact cY.1
  have hZ : csZ a b c d e f g h i = (d - a) * (h - b) - (e - b) * (g - a) := by unfold csZ; rw [ed.1, eh.1, ee.1, eg.1]; exact cZ.1
  have hV : dtF a b c d e f g h i x y z = volP (d - a) (e - b) (f - c) (g - a) (h - b) (i - c) (x - a) (y - b) (z - c) := by
    unfold dtF; rw [ed.1, ee.1, ef.1, eg.1, eh.1, ei.1, ex.1, ey.1, ez.1]; exact vV.1
  have hdot : volP (d - a) (e - b) (f - c) (g - a) (h - b) (i - c) (x - a) (y - b) (z - c) =
      ((e - b) * (i - c) - (f - c) * (h - b)) * (x - a) + ((f - c) * (g - a) - (d - a) * (i - c)) * (y - b) + ((d - a) * (h - b) - (e - b) * (g - a)) * (z - c) := by
    unfold volP; grind
  refine ⟨_, _, _, _, _, hX, hY, hZ, lnF_eq cX.2 cY.2 cZ.2, hV, vV.2, ?_, gcd3_pos, ?_, ?_⟩
  · rw [hdot]
    have h3 := gcd3_dvd ((e - b) * (i - c) - (f - c) * (h - b)) ((f - c) * (g - a) - (d - a) * (i - c)) ((d - a) * (h - b) - (e - b) * (g - a))
    exact Int.dvd_add (Int.dvd_add (Int.dvd_mul_of_dvd_left h3.1) (Int.dvd_mul_of_dvd_left h3.2.1)) (Int.dvd_mul_of_dvd_left h3.2.2)
  · rw [ex.1, ey.1, ez.1, hdot]
    have m1 := sm_mul cX.2 ex.2 (by omega); have m2 := sm_mul cY.2 ey.2 (by omega); have m3 := sm_mul cZ.2 ez.2 (by omega)
    unfold sm at m1 m2 m3
    unfold dotF
    rw [w64_in (n := _ * (x - a)) (by omega) (by omega), w64_in (n := _ * (y - b)) (by omega) (by omega), w64_in (n := _ * (z - c)) (by omega) (by omega),
      w64_in (n := _ * (x - a) + _ * (y - b)) (by omega) (by omega), w64_in (by omega) (by omega)]
  · exact (tv_eq k).1
theorem csF_eq {a b c d e f g h i x y z X Y Z L V : Int} (k : DsOk a b c d e f g h i x y z X Y Z L V) : csF a b c d e f g h i = true ↔ X = 0 ∧ Y = 0 ∧ Z = 0 := by
  unfold csF
  rw [k.kx, k.ky, k.kz]
  simp [and_assoc]
theorem size_sm {V : Int} (h : sm V 384000) : sizeF V = V.natAbs := by
  unfold sm at h
  unfold sizeF maxi
  rw [w64_in (by omega) (by omega)]
  split <;> omega
theorem dsQ_eq {a b c d e f g h i x y z X Y Z L V : Int} (k : DsOk a b c d e f g h i x y z X Y Z L V) (hc : csF a b c d e f g h i = false) :
    ∃ q, V = L * q ∧ 0 < L ∧ dsQ a b c d e f g h i x y z = q.natAbs ∧ (q.natAbs : Int) ≤ 384000 ∧ w64 (V.tdiv L) = q := by
  have hl := k.lp fun h => by rw [(csF_eq k).2 h] at hc; cases hc
  obtain ⟨q, hq⟩ := k.vp
  have hs := k.sv
  have hb : (q.natAbs : Int) ≤ V.natAbs := by
    rw [hq, Int.natAbs_mul]
    have : 1 * q.natAbs ≤ L.natAbs * q.natAbs := Nat.mul_le_mul_right _ (by omega)
    omega
  unfold sm at hs
  refine ⟨q, hq, hl, ?_, by omega, ?_⟩
  · unfold dsQ
    rw [k.kx, k.ky, k.kz, k.kl, k.kv, size_sm k.sv]
    have : (V.natAbs : Int).tdiv L = q.natAbs := by
      rw [hq, Int.natAbs_mul, Int.natCast_mul, show ((L.natAbs : Nat) : Int) = L by omega]
      exact Int.mul_tdiv_cancel_left _ (by omega)
    rw [this, w64_in (by omega) (by omega)]
  · rw [hq, Int.mul_tdiv_cancel_left _ (by omega), w64_in (by omega) (by omega)]
/-- The reference takes the greater of the quotient and its negative. -/
theorem ds_spec {a b c d e f g h i x y z : Int} (h1 : spsF a b c d e f g h i x y z = true) (hc : csF a b c d e f g h i = false) :
    maxi (w64 ((dotF (csX a b c d e f g h i) (csY a b c d e f g h i) (csZ a b c d e f g h i) (plusF x (-1) a) (plusF y (-1) b) (plusF z (-1) c)).tdiv (lnF (csX a b c d e f g h i) (csY a b c d e f g h i) (csZ a b c d e f g h i))))
      (w64 (0 - w64 ((dotF (csX a b c d e f g h i) (csY a b c d e f g h i) (csZ a b c d e f g h i) (plusF x (-1) a) (plusF y (-1) b) (plusF z (-1) c)).tdiv (lnF (csX a b c d e f g h i) (csY a b c d e f g h i) (csZ a b c d e f g h i))))) = dsQ a b c d e f g h i x y z := by
  obtain ⟨X, Y, Z, L, V, k⟩ := ds_ok h1
  obtain ⟨q, hq, hl, h2, h3, h4⟩ := dsQ_eq k hc
  rw [h2, k.kx, k.ky, k.kz, k.dot, k.kl, h4]
  unfold maxi
  rw [w64_in (by omega) (by omega)]
  split <;> omega
theorem ds_ln {a b c d e f g h i x y z : Int} (h1 : spsF a b c d e f g h i x y z = true) (hc : csF a b c d e f g h i = false) : decide (lnF (csX a b c d e f g h i) (csY a b c d e f g h i) (csZ a b c d e f g h i) = 0) = false := by
  obtain ⟨X, Y, Z, L, V, k⟩ := ds_ok h1
  obtain ⟨q, hq, hl, h2, h3, h4⟩ := dsQ_eq k hc
  rw [k.kx, k.ky, k.kz, k.kl]
  exact decide_eq_false (by omega)
/-- Distances times lengths are volumes. -/
theorem ds_cases {a b c d e f g h i x y z : Int} (h0 : dsE a b c d e f g h i x y z = 0) :
    (cnE a b c d e f g h i x y z = 0 → dsV a b c d e f g h i x y z ≠ 0 ∧ (vlV a b c d e f g h i x y z).tmod (dsV a b c d e f g h i x y z) = 0) ∧
    (cnE a b c d e f g h i x y z ≠ 0 → dsV a b c d e f g h i x y z = 0) := by
  unfold dsE dsV cnE vlV at *
  cases h1 : spsF a b c d e f g h i x y z
  · rw [h1] at h0; cases h0
  rw [h1] at h0
  cases hc : csF a b c d e f g h i
  case true => rw [hc] at h0; cases h0
  obtain ⟨X, Y, Z, L, V, k⟩ := ds_ok h1
  obtain ⟨q, hq, hl, h2, h3, h4⟩ := dsQ_eq k hc
  have ht : isTetF a b c d e f g h i x y z = !decide (tvF a b c d e f g h i x y z = 0) := by
    have : isTetF a b c d e f g h i x y z = (spsF a b c d e f g h i x y z && !decide (tvF a b c d e f g h i x y z = 0)) := rfl
    rw [this, h1]; rfl
  simp only [selF]
  rw [h2, ht, k.tv]
  by_cases hv : V = 0
  · have hq0 : q = 0 := by
      rw [hv] at hq
      rcases Int.mul_eq_zero.1 hq.symm with h | h
      · omega
      · exact h
    subst hv; subst hq0
    simp
  · have hq0 : q ≠ 0 := by intro h; rw [h] at hq; omega
    have : decide ((V.natAbs : Int) = 0) = false := decide_eq_false (by omega)
    rw [this]
    refine ⟨fun _ => ⟨by omega, ?_⟩, fun h => absurd rfl h⟩
    show ((V.natAbs : Nat) : Int).tmod _ = 0
    rw [hq, Int.natAbs_mul, Int.natCast_mul]
    exact Int.mul_tmod_left _ _

theorem br_imp {b : Bool} {A B : Prop} (h1 : b = true → B → A) (h2 : B) : brK b A B := by
  cases b
  · exact h2
  · exact h1 rfl h2
section
variable {a b c d e f g h i x y z : Int}
theorem ds1 (h0 : decide (dsE a b c d e f g h i x y z = 0) = true) (h1 : decide (cnE a b c d e f g h i x y z = 0) = true) : decide (dsV a b c d e f g h i x y z = 0) = false :=
  decide_eq_false ((ds_cases (of_decide_eq_true h0)).1 (of_decide_eq_true h1)).1
theorem ds2 (h0 : decide (dsE a b c d e f g h i x y z = 0) = true) (h1 : decide (cnE a b c d e f g h i x y z = 0) = true) : decide ((vlV a b c d e f g h i x y z).tmod (dsV a b c d e f g h i x y z) = 0) = true :=
  decide_eq_true ((ds_cases (of_decide_eq_true h0)).1 (of_decide_eq_true h1)).2
theorem ds3 (h0 : decide (dsE a b c d e f g h i x y z = 0) = true) (h1 : decide (cnE a b c d e f g h i x y z = 0) = false) : decide (dsV a b c d e f g h i x y z = 0) = true :=
  decide_eq_true ((ds_cases (of_decide_eq_true h0)).2 (of_decide_eq_false h1))
theorem em1 (h1 : decide (cnE a b c d e f g h i x y z = 0) = true) : (emV a b c d e f g h i x y z == decide (cnV a b c d e f g h i x y z = 4)) = true := by
  rw [em_cn (of_decide_eq_true h1)]; exact beq_self_eq_true _
theorem vl1 (h1 : decide (cnE a b c d e f g h i x y z = 0) = true) : decide (vlV a b c d e f g h i x y z < 1) = false :=
  decide_eq_false (by have := vl_one (of_decide_eq_true h1); omega)
theorem cn1 (h1 : decide (cnE a b c d e f g h i x y z = 0) = true) : decide (cnV a b c d e f g h i x y z ≥ 4) = true :=
  decide_eq_true (cn_four (of_decide_eq_true h1))
end

end Go.Ev
