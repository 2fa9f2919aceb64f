/-
  Several texts of this work in one (a claim holds at most 60 files).
  Conditions: as each contract states.
-/
import Derived.Test.YtlkbfpklhncfbaaGreatDoorSpec
import Derived.Test.YtlkbfpklhncfbaaGreatDoorKM3
import Derived.Test.YtlkbfpklhncfbaaGreatDoorKM6
import Derived.Test.YtlkbfpklhncfbaaGreatDoorKM2
section
/-
  A generator of numbers (multiply and add modulo 2^64): a loop that goes on while a third of its draws is zero cannot go on for long. The plain law.
  Conditions: none.
-/
set_option linter.unusedVariables false
set_option linter.unusedSimpArgs false
namespace Go.Ev

/-! ### A sequence by multiplication and addition, modulo N -/
structure SeqY (B C N : Nat) (y : Nat → Nat) : Prop where
  lt : ∀ m, y m < N
  next : ∀ m, y (m + 1) = ((B + 1) * y m + C) % N
def dY (B C : Nat) (y : Nat → Nat) (m : Nat) : Nat := B * y m + C
/-- The powers of B + 1 and their sums, doubled again and again. -/
def dbl (B N : Nat) : Nat → Nat × Nat
  | 0 => ((B + 1) % N, 1)
  | k + 1 => ((dbl B N k).1 * (dbl B N k).1 % N, (dbl B N k).2 * (1 + (dbl B N k).1) % N)
section
variable {B C N : Nat} {y : Nat → Nat}
theorem mm (a b N : Nat) : a % N * b % N = a * b % N := by rw [Nat.mul_mod, Nat.mod_mod, ← Nat.mul_mod]
theorem SeqY.dnext (h : SeqY B C N y) (m : Nat) : dY B C y (m + 1) % N = ((B + 1) * dY B C y m) % N := by
  unfold dY
  rw [h.next]
  have e : (B + 1) * (B * y m + C) = B * ((B + 1) * y m + C) + C := by grind
  rw [e, Nat.add_mod, Nat.mul_mod, Nat.mod_mod, ← Nat.mul_mod, ← Nat.add_mod]
/-- 2^k steps at once. -/
theorem SeqY.steps (h : SeqY B C N y) : ∀ (k m : Nat), y (m + 2 ^ k) % N = (y m + (dbl B N k).2 * dY B C y m) % N ∧ dY B C y (m + 2 ^ k) % N = ((dbl B N k).1 * dY B C y m) % N
  | 0, m => by
    constructor
    · show y (m + 1) % N = (y m + 1 * dY B C y m) % N
      rw [h.next, Nat.mod_mod, Nat.one_mul]
      unfold dY
      congr 1
      grind
    · show dY B C y (m + 1) % N = ((B + 1) % N * dY B C y m) % N
      rw [h.dnext, mm]
  | k + 1, m => by
    obtain ⟨h1, h2⟩ := h.steps k m
    obtain ⟨h3, h4⟩ := h.steps k (m + 2 ^ k)
    have e : m + 2 ^ (k + 1) = m + 2 ^ k + 2 ^ k := by rw [Nat.pow_succ]; omega
    rw [e]
    constructor
    · rw [h3]
      show _ = (y m + (dbl B N k).2 * (1 + (dbl B N k).1) % N * dY B C y m) % N
      generalize (dbl B N k).1 = p at *
      generalize (dbl B N k).2 = s at *
      generalize dY B C y (m + 2 ^ k) = d2 at *
      generalize dY B C y m = d at *
      have e1 : (s * d2) % N = (s * (p * d)) % N := by rw [Nat.mul_mod, h2, ← Nat.mul_mod]
      rw [Nat.add_mod, h1, e1, ← Nat.add_mod, Nat.add_mod (y m) (s * (1 + p) % N * d), mm, ← Nat.add_mod]
      congr 1
      grind
    · rw [h4]
      show _ = ((dbl B N k).1 * (dbl B N k).1 % N * dY B C y m) % N
      generalize (dbl B N k).1 = p at *
      rw [Nat.mul_mod, h2, ← Nat.mul_mod, mm]
      congr 1
      grind
/-- Rows: steps that all add the same. -/
theorem SeqY.rows (h : SeqY B C N y) {k : Nat} (hs : ((dbl B N k).2 * (dbl B N k).1) % N = (dbl B N k).2 % N) (m : Nat) : ∀ j : Nat, y (m + j * 2 ^ k) % N = (y m + j * ((dbl B N k).2 * dY B C y m)) % N ∧ ((dbl B N k).2 * dY B C y (m + j * 2 ^ k)) % N = ((dbl B N k).2 * dY B C y m) % N
  | 0 => by simp
  | j + 1 => by
    obtain ⟨h1, h2⟩ := h.rows hs m j
    obtain ⟨h3, h4⟩ := h.steps k (m + j * 2 ^ k)
    have e : m + (j + 1) * 2 ^ k = m + j * 2 ^ k + 2 ^ k := by rw [Nat.add_mul]; omega
    rw [e]
    constructor
    · rw [h3, Nat.add_mod, h1, h2, ← Nat.add_mod]
      congr 1
      grind
    · rw [Nat.mul_mod, h4, ← Nat.mul_mod, ← Nat.mul_assoc, Nat.mul_mod, hs, ← Nat.mul_mod, h2]

/-! ### Powers reach every number of their class modulo 8 -/
theorem pow_two {A : Nat} (hA : A % 16 = 9) : ∀ j : Nat, ∃ t, A ^ 2 ^ j = 1 + 2 ^ (j + 3) + 2 ^ (j + 4) * t
  | 0 => ⟨A / 16, by simp; omega⟩
  | j + 1 => by
    obtain ⟨t, ht⟩ := pow_two hA j
    have e : A ^ 2 ^ (j + 1) = A ^ 2 ^ j * A ^ 2 ^ j := by rw [← Nat.pow_add, Nat.pow_succ]; congr 1; omega
    rw [e, ht]
    have p1 : 2 ^ (j + 4) = 2 * 2 ^ (j + 3) := by rw [Nat.pow_succ]; omega
    have p2 : 2 ^ (j + 1 + 3) = 2 * 2 ^ (j + 3) := by rw [show j + 1 + 3 = j + 3 + 1 by omega, Nat.pow_succ]; omega
    have p3 : 2 ^ (j + 1 + 4) = 4 * 2 ^ (j + 3) := by rw [show j + 1 + 4 = j + 3 + 1 + 1 by omega, Nat.pow_succ, Nat.pow_succ]; omega
    have p4 : 2 ^ (j + 3) = 8 * 2 ^ j := by rw [Nat.pow_add]; omega
    rw [p1, p3]
    generalize 2 ^ (j + 3) = u at *
    refine ⟨t + 2 * 2 ^ j * (1 + 2 * t) * (1 + 2 * t), ?_⟩
    rw [p4]
    grind
theorem half_mod {K r c : Nat} (hr : r < K) : (r + K * c) % (2 * K) = r + K * (c % 2) := by
  have e : r + K * c = r + K * (c % 2) + 2 * K * (c / 2) := by
    have := Nat.div_add_mod c 2
    have e2 : K * c = K * (2 * (c / 2) + c % 2) := by rw [this]
    rw [e2]; grind
  rw [e, Nat.add_mul_mod_self_left]
  refine Nat.mod_eq_of_lt ?_
  have : c % 2 = 0 ∨ c % 2 = 1 := by omega
  rcases this with h | h <;> rw [h] <;> omega
theorem lcg_reach {A z v : Nat} (hA : A % 16 = 9) (hv : v % 2 = 1) (h8 : z % 8 = v % 8) : ∀ k : Nat, ∃ i, i < 2 ^ k ∧ (A ^ i * z) % 2 ^ (k + 3) = v % 2 ^ (k + 3)
  | 0 => ⟨0, by simp, by simpa using h8⟩
  | k + 1 => by
    obtain ⟨i, hi, he⟩ := lcg_reach hA hv h8 k
    have p1 : 2 ^ (k + 1 + 3) = 2 * 2 ^ (k + 3) := by rw [show k + 1 + 3 = k + 3 + 1 by omega, Nat.pow_succ]; omega
    have p2 : 2 ^ (k + 1) = 2 * 2 ^ k := by rw [Nat.pow_succ]; omega
    have p4 : 2 ^ (k + 3) = 8 * 2 ^ k := by rw [Nat.pow_add]; omega
    by_cases hc : (A ^ i * z) % 2 ^ (k + 1 + 3) = v % 2 ^ (k + 1 + 3)
    · exact ⟨i, by omega, hc⟩
    · refine ⟨i + 2 ^ k, by omega, ?_⟩
      obtain ⟨t, ht⟩ := pow_two hA k
      have p3 : 2 ^ (k + 4) = 2 * 2 ^ (k + 3) := by rw [Nat.pow_succ]; omega
      rw [Nat.pow_add, ht, p3]
      rw [p1] at hc
      have e1 : A ^ i * (1 + 2 ^ (k + 3) + 2 * 2 ^ (k + 3) * t) * z = A ^ i * z * (1 + 2 ^ (k + 3) + 2 * 2 ^ (k + 3) * t) := by grind
      rw [e1]
      generalize A ^ i * z = w at *
      have hK : 2 ^ (k + 3) % 2 = 0 := by rw [p4]; omega
      generalize 2 ^ (k + 3) = K at *
      have hK0 : 0 < K := by
        rcases Nat.eq_zero_or_pos K with h0 | h0
        · subst h0; omega
        · exact h0
      obtain ⟨a, r, hr, rfl⟩ : ∃ a r, r < K ∧ w = r + K * a := ⟨w / K, w % K, Nat.mod_lt _ hK0, (Nat.mod_add_div w K).symm⟩
      obtain ⟨b, r2, hr2, rfl⟩ : ∃ b r2, r2 < K ∧ v = r2 + K * b := ⟨v / K, v % K, Nat.mod_lt _ hK0, (Nat.mod_add_div v K).symm⟩
      rw [Nat.add_mul_mod_self_left, Nat.add_mul_mod_self_left, Nat.mod_eq_of_lt hr, Nat.mod_eq_of_lt hr2] at he
      subst he
      rw [half_mod hr, half_mod hr] at hc
      have e2 : (r + K * a) * (1 + K + 2 * K * t) = r + K * (a + (r + K * a) + 2 * (t * (r + K * a))) := by grind
      rw [e2, half_mod hr, half_mod hr]
      have hrd : r % 2 = 1 := by
        have : (K * b) % 2 = 0 := by rw [Nat.mul_mod, hK]; simp
        omega
      have hka : (K * a) % 2 = 0 := by rw [Nat.mul_mod, hK]; simp
      have hab : a % 2 ≠ b % 2 := fun e => hc (by rw [e])
      have : (a + (r + K * a) + 2 * (t * (r + K * a))) % 2 = b % 2 := by omega
      rw [this]

/-! ### Cells: six of them, two are good; a row of six steps meets two -/
theorem cells2 {v w : Nat} (hv : v % 6 = 1 ∨ v % 6 = 5) (hw : w % 6 = 1 ∨ w % 6 = 5) (q r : Nat) : ∃ t, t < 5 ∧ ¬ (q + t * v) % 6 < 2 ∧ ¬ (r + t * w) % 6 < 2 := by
  have key : ([1, 5].all fun v => [1, 5].all fun w => (List.range 6).all fun q => (List.range 6).all fun r => (List.range 5).any fun t => !decide ((q + t * v) % 6 < 2) && !decide ((r + t * w) % 6 < 2)) = true := by decide +kernel
  have mv : v % 6 ∈ [1, 5] := by simpa using hv
  have mw : w % 6 ∈ [1, 5] := by simpa using hw
  have mq : q % 6 ∈ List.range 6 := List.mem_range.2 (by omega)
  have mr : r % 6 ∈ List.range 6 := List.mem_range.2 (by omega)
  have k1 := List.all_eq_true.1 (List.all_eq_true.1 (List.all_eq_true.1 (List.all_eq_true.1 key _ mv) _ mw) _ mq) _ mr
  obtain ⟨t, h1, h2⟩ := List.any_eq_true.1 k1
  rw [List.mem_range] at h1
  simp only [Bool.and_eq_true, Bool.not_eq_true', decide_eq_false_iff_not] at h2
  obtain ⟨h2, h3⟩ := h2
  refine ⟨t, h1, ?_, ?_⟩
  · rwa [Nat.add_mod, Nat.mod_mod, Nat.mul_mod t (v % 6), Nat.mod_mod, ← Nat.mul_mod, ← Nat.add_mod] at h2
  · rwa [Nat.add_mod, Nat.mod_mod, Nat.mul_mod t (w % 6), Nat.mod_mod, ← Nat.mul_mod, ← Nat.add_mod] at h3
/-- Two rows modulo M, by small steps: five places without a turn. -/
theorem no_turn {M v w q r : Nat} (hv : 0 < v ∧ 15 * v ≤ M) (hw : 0 < w ∧ 15 * w ≤ M) (hq : q < M) (hr : r < M) : ∃ s, s ≤ 10 ∧ ∀ t, t < 5 → (q + (s + t) * v) % M = (q + s * v) % M + t * v ∧ (r + (s + t) * w) % M = (r + s * w) % M + t * w := by
  -- a turn happens at most once in 15 steps
  have one : ∀ {u p : Nat}, 0 < u → 15 * u ≤ M → p < M → ∀ s t, s + t < 15 → ((p + s * u < M → p + (s + t) * u < M) → (p + (s + t) * u) % M = (p + s * u) % M + t * u) := by
    intro u p hu h18 hp s t hst hno
    have e1 : (s + t) * u = s * u + t * u := Nat.add_mul ..
    have hle : (s + t) * u ≤ 14 * u := Nat.mul_le_mul_right _ (by omega)
    by_cases h : p + s * u < M
    · have h2 := hno h
      rw [Nat.mod_eq_of_lt h2, Nat.mod_eq_of_lt h, e1]; omega
    · have a1 : (p + s * u) % M = p + s * u - M := by rw [Nat.mod_eq_sub_mod (by omega), Nat.mod_eq_of_lt (by omega)]
      have a2 : (p + (s + t) * u) % M = p + (s + t) * u - M := by rw [Nat.mod_eq_sub_mod (by omega), Nat.mod_eq_of_lt (by omega)]
      rw [a1, a2, e1]; omega
  have turn : ∀ {u p : Nat}, ∃ k, ∀ s, (p + s * u < M ↔ s < k) ∨ (u = 0) := by
    intro u p
    rcases Nat.eq_zero_or_pos u with h | h
    · exact ⟨0, fun s => .inr h⟩
    · by_cases hp : p < M
      · refine ⟨(M - p + u - 1) / u, fun s => .inl ?_⟩
        rw [Nat.lt_div_iff_mul_lt h]
        constructor
        · intro h1; omega
        · intro h1; omega
      · exact ⟨0, fun s => .inl ⟨fun h1 => by omega, fun h1 => by omega⟩⟩
  obtain ⟨k, hk⟩ := @turn v q
  obtain ⟨l, hl⟩ := @turn w r
  have hk : ∀ s, q + s * v < M ↔ s < k := fun s => (hk s).resolve_right (by omega)
  have hl : ∀ s, r + s * w < M ↔ s < l := fun s => (hl s).resolve_right (by omega)
  have : ∃ s, s ≤ 10 ∧ (k ≤ s ∨ s + 5 ≤ k) ∧ (l ≤ s ∨ s + 5 ≤ l) := by
    by_cases h0 : (k ≤ 0 ∨ 0 + 5 ≤ k) ∧ (l ≤ 0 ∨ 0 + 5 ≤ l)
    · exact ⟨0, by omega, h0⟩
    · by_cases h6 : (k ≤ 5 ∨ 5 + 5 ≤ k) ∧ (l ≤ 5 ∨ 5 + 5 ≤ l)
      · exact ⟨5, by omega, h6⟩
      · exact ⟨10, by omega, by omega, by omega⟩
  obtain ⟨s, hs, h1, h2⟩ := this
  refine ⟨s, hs, fun t ht => ⟨one hv.1 hv.2 hq s t (by omega) (fun h => ?_), one hw.1 hw.2 hr s t (by omega) (fun h => ?_)⟩⟩
  · rw [hk] at h ⊢; omega
  · rw [hl] at h ⊢; omega
end

/-! ### The generator, every second number, modulo 2^61 -/
def bA : Nat := 40502229875678917802724098623316930024
def bC : Nat := 9181507769685582209825849996637531442
def n61 : Nat := 2305843009213693952
def lcg (h : Nat) : Nat := (h * 6364136223846793005 + 1442695040888963407) % 18446744073709551616
theorem two_steps (h : Nat) : lcg (lcg h) % n61 = ((bA + 1) * (h % n61) + bC) % n61 := by
  unfold lcg n61 bA bC
  omega
def good3 (h : Nat) : Prop := h / 2147483648 % 1073741824 % 3 = 0
theorem hrow29 : (1395193298129256448 * 656915149138952193) % n61 = 1395193298129256448 % n61 := by decide +kernel
theorem row30 {a b : Nat} (ha : a < 2305843009213693952) : (a + 1073741824 * b) % 2305843009213693952 / 1073741824 = (a / 1073741824 + b) % 2147483648 := by omega
theorem good_cell {a : Nat} (ha : a < 2305843009213693952) : a / 2147483648 % 1073741824 % 3 = 0 ↔ a / 1073741824 % 6 < 2 := by
  have e : a / 2147483648 = a / 1073741824 / 2 := by rw [Nat.div_div_eq_div_mul]
  have hq : a / 1073741824 < 2147483648 := by omega
  rw [e]
  generalize a / 1073741824 = q at *
  rw [Nat.mod_eq_of_lt (show q / 2 < 1073741824 by omega)]
  omega
theorem reach31 {A z v : Nat} (hA : A % 16 = 9) (hv : v % 2 = 1) (h8 : z % 8 = v % 8) : ∃ i, i < 268435456 ∧ (A ^ i * z) % 2147483648 = v % 2147483648 := by
  obtain ⟨i, hi, he⟩ := lcg_reach hA hv h8 28
  have p1 : 2 ^ 28 = 268435456 := by decide
  have p2 : 2 ^ (28 + 3) = 2147483648 := by decide
  rw [p1] at hi; rw [p2] at he
  exact ⟨i, hi, he⟩
theorem dbl29 : dbl bA n61 29 = (656915149138952193, 1395193298129256448) := by decide +kernel
section
variable {y : Nat → Nat}
theorem SeqY.dpow {B C N : Nat} (h : SeqY B C N y) : ∀ i, dY B C y i % N = ((B + 1) ^ i * dY B C y 0) % N
  | 0 => by simp
  | i + 1 => by
    rw [h.dnext, Nat.mul_mod, h.dpow i, ← Nat.mul_mod, Nat.pow_succ]
    congr 1
    grind
theorem step30 {z v : Nat} (h : z % 2147483648 = v) : (1073741824 * z) % 2305843009213693952 = (1073741824 * v) % 2305843009213693952 := by omega
structure VW (z v w : Nat) : Prop where
  e : z % 8 = v % 8
  o : v % 2 = 1
  v6 : v % 6 = 1 ∨ v % 6 = 5
  w6 : w % 6 = 1 ∨ w % 6 = 5
  vM : v < 1000000
  wM : w < 1000000
  wv : ((bA + 1) * v) % 2147483648 = w
  v0 : 0 < v
  w0 : 0 < w
theorem vw1 : ((bA + 1) * 178073) % 2147483648 = 163649 := by decide +kernel
theorem vw3 : ((bA + 1) * 63211) % 2147483648 = 166627 := by decide +kernel
theorem vw5 : ((bA + 1) * 97645) % 2147483648 = 53557 := by decide +kernel
theorem vw7 : ((bA + 1) * 86167) % 2147483648 = 91247 := by decide +kernel
theorem vw_ex {z : Nat} (hz : z % 2 = 1) : ∃ v w, VW z v w := by
  have : z % 8 = 1 ∨ z % 8 = 3 ∨ z % 8 = 5 ∨ z % 8 = 7 := by omega
  rcases this with e | e | e | e
  · exact ⟨178073, 163649, ⟨by omega, by omega, by omega, by omega, by omega, by omega, vw1, by omega, by omega⟩⟩
  · exact ⟨63211, 166627, ⟨by omega, by omega, by omega, by omega, by omega, by omega, vw3, by omega, by omega⟩⟩
  · exact ⟨97645, 53557, ⟨by omega, by omega, by omega, by omega, by omega, by omega, vw5, by omega, by omega⟩⟩
  · exact ⟨86167, 91247, ⟨by omega, by omega, by omega, by omega, by omega, by omega, vw7, by omega, by omega⟩⟩
theorem dY_four (x : Nat) : (bA * x + bC) % 4 = 2 := by unfold bA bC; omega
theorem hA16 : (bA + 1) % 16 = 9 := by decide +kernel
attribute [local irreducible] bA bC
/-- Somewhere two that follow each other are not good. -/
theorem lcg_gap (h : SeqY bA bC n61 y) : ∃ m, m ≤ 7784628224 ∧ ¬ good3 (y m) ∧ ¬ good3 (y (m + 1)) := by
  have hd0 : dY bA bC y 0 % 4 = 2 := dY_four (y 0)
  obtain ⟨δ, hδ, hδ1⟩ : ∃ δ, dY bA bC y 0 = 2 * δ ∧ δ % 2 = 1 := ⟨dY bA bC y 0 / 2, by omega, by omega⟩
  obtain ⟨z, hzd⟩ : ∃ z, 2598750029 * δ = z := ⟨_, rfl⟩
  have hz : z % 2 = 1 := by omega
  obtain ⟨v, w, ⟨hv8, hv2, hv6, hw6, hvM, hwM, hwv, hv0, hw0⟩⟩ := vw_ex hz
  obtain ⟨i, hi, he⟩ := reach31 (A := bA + 1) hA16 hv2 hv8
  rw [Nat.mod_eq_of_lt (show v < 2147483648 by omega)] at he
  have hs : (dbl bA n61 29).2 = 1395193298129256448 := by rw [dbl29]
  -- what a row's step adds
  have st : ∀ m u : Nat, ((bA + 1) ^ m * z) % 2147483648 = u → ((dbl bA n61 29).2 * dY bA bC y m) % 2305843009213693952 = (1073741824 * u) % 2305843009213693952 := by
    intro m u hu
    have e1 := h.dpow m
    rw [hδ] at e1
    have e2 : ((dbl bA n61 29).2 * dY bA bC y m) % n61 = ((dbl bA n61 29).2 * ((bA + 1) ^ m * (2 * δ))) % n61 := by rw [Nat.mul_mod, e1, ← Nat.mul_mod]
    have e3 : (dbl bA n61 29).2 * ((bA + 1) ^ m * (2 * δ)) = 1073741824 * ((bA + 1) ^ m * z) := by
      rw [hs, ← hzd]
      generalize (bA + 1) ^ m = p
      rw [show p * (2 * δ) = 2 * (p * δ) by rw [Nat.mul_left_comm], show p * (2598750029 * δ) = 2598750029 * (p * δ) by rw [Nat.mul_left_comm]]
      generalize p * δ = x
      omega
    rw [e3] at e2
    exact e2.trans (step30 hu)
  have s1 := st i v he
  have s2 := st (i + 1) w (by
    rw [Nat.pow_succ, Nat.mul_right_comm, Nat.mul_mod, he, ← hwv, Nat.mul_comm (bA + 1) v, Nat.mul_mod v (bA + 1), Nat.mod_eq_of_lt (show v < 2147483648 by omega)])
  have hrow : ((dbl bA n61 29).2 * (dbl bA n61 29).1) % n61 = (dbl bA n61 29).2 % n61 := by rw [dbl29]; exact hrow29
  have row : ∀ m u j : Nat, ((dbl bA n61 29).2 * dY bA bC y m) % 2305843009213693952 = (1073741824 * u) % 2305843009213693952 → y (m + j * 536870912) / 1073741824 = (y m / 1073741824 + j * u) % 2147483648 := by
    intro m u j hu
    have e1 := (h.rows hrow m j).1
    have l1 : y (m + j * 536870912) < 2305843009213693952 := h.lt _
    have l2 : y m < 2305843009213693952 := h.lt _
    have e2 : y (m + j * 536870912) % 2305843009213693952 = (y m + j * ((dbl bA n61 29).2 * dY bA bC y m)) % 2305843009213693952 := e1
    rw [Nat.mod_eq_of_lt l1] at e2
    rw [e2, Nat.add_mod, Nat.mul_mod j, hu, ← Nat.mul_mod, ← Nat.add_mod, Nat.mul_left_comm]
    exact row30 l2
  have l1 : y i < 2305843009213693952 := h.lt _
  have l2 : y (i + 1) < 2305843009213693952 := h.lt _
  obtain ⟨s, hs12, ht⟩ := no_turn (M := 2147483648) (v := v) (w := w) (q := y i / 1073741824) (r := y (i + 1) / 1073741824) ⟨hv0, by omega⟩ ⟨hw0, by omega⟩ (by omega) (by omega)
  obtain ⟨t, ht6, c1, c2⟩ := cells2 hv6 hw6 ((y i / 1073741824 + s * v) % 2147483648) ((y (i + 1) / 1073741824 + s * w) % 2147483648)
  obtain ⟨t1, t2⟩ := ht t ht6
  rw [← t1, ← row i v (s + t) s1] at c1
  rw [← t2, ← row (i + 1) w (s + t) s2] at c2
  refine ⟨i + (s + t) * 536870912, by omega, fun g => c1 ?_, fun g => c2 ?_⟩
  · exact (good_cell (h.lt _)).1 g
  · rw [show i + 1 + (s + t) * 536870912 = i + (s + t) * 536870912 + 1 by omega]
    exact (good_cell (h.lt _)).1 g
end
/-! ### A loop that looks at every second or fourth draw -/
def itL (h : Nat) : Nat → Nat
  | 0 => h
  | m + 1 => lcg (itL h m)
def yL (h p : Nat) : Nat := itL h (2 * p + 1) % n61
theorem yL_seq (h : Nat) : SeqY bA bC n61 (yL h) := by
  refine ⟨fun m => Nat.mod_lt _ (by unfold n61; omega), fun m => ?_⟩
  show itL h (2 * (m + 1) + 1) % n61 = ((bA + 1) * (itL h (2 * m + 1) % n61) + bC) % n61
  rw [← two_steps]
  rfl
theorem good_mod (x : Nat) : good3 (x % n61) ↔ good3 x := by
  have : x % 2305843009213693952 / 2147483648 % 1073741824 = x / 2147483648 % 1073741824 := by omega
  unfold good3 n61
  rw [this]
/-- m draws are done; of two looks that follow each other at every second draw, one at least was good. -/
structure Passed (h m : Nat) : Prop where
  ev : m % 2 = 0
  ok : ∀ p, p + 1 < m / 2 → good3 (yL h p) ∨ good3 (yL h (p + 1))
section
variable {h m : Nat}
theorem Passed.zero : Passed h 0 := ⟨rfl, fun p hp => by omega⟩
theorem Passed.look (hp : m % 2 = 0) (hg : good3 (itL h (m + 1))) : good3 (yL h (m / 2)) := by
  unfold yL
  rw [good_mod, show 2 * (m / 2) + 1 = m + 1 by omega]
  exact hg
theorem Passed.two (hp : Passed h m) (hg : good3 (itL h (m + 1))) : Passed h (m + 2) := by
  have h1 := hp.ev
  have hl := Passed.look h1 hg
  refine ⟨by omega, fun p hp2 => ?_⟩
  by_cases e : p + 1 < m / 2
  · exact hp.ok p e
  · rw [show p + 1 = m / 2 by omega]; exact .inr hl
theorem Passed.four (hp : Passed h m) (hg : good3 (itL h (m + 1))) : Passed h (m + 4) := by
  have h1 := hp.ev
  have hl := Passed.look h1 hg
  refine ⟨by omega, fun p hp2 => ?_⟩
  by_cases e : p + 1 < m / 2
  · exact hp.ok p e
  · by_cases e2 : p + 1 = m / 2
    · rw [e2]; exact .inr hl
    · rw [show p = m / 2 by omega]; exact .inl hl
theorem Passed.bound (hp : Passed h m) : m ≤ 15569256452 := by
  obtain ⟨p, h1, h2, h3⟩ := lcg_gap (yL_seq h)
  refine Classical.byContradiction fun hn => ?_
  rcases hp.ok p (by omega) with g | g
  · exact h2 g
  · exact h3 g
end
end Go.Ev
end

section
/-
  Texts that are damaged while a number of the generator is divisible by 3: they stay short enough, and the loop ends. The plain law.
  Conditions: none.
-/
set_option linter.unusedVariables false
set_option linter.unusedSimpArgs false
namespace Go.Ev

/-! ### One draw -/
abbrev nxH (h : Int) : Int := u64add (u64mul h 6364136223846793005) 1442695040888963407
abbrev nxV (h : Int) : Int := w64 (u64and (u64shr h 31) 1073741823)
structure NextX (n : Nat) (o h m x o2 h2 : Int) : Prop where
  bel : Below1 m x
  at_ : SrcAt n o2
  in_ : 1 ≤ m → o < n → o2 = o + 1
  out : 1 ≤ m → ¬ o < n → o2 = o ∧ h2 = nxH h ∧ x = (nxV (nxH h)).tmod m
theorem NextX.zero {n : Nat} {o h m : Int} (hm : m < 1) (ha : SrcAt n o) : NextX n o h m 0 o h :=
  ⟨below_zero hm, ha, fun h1 => by omega, fun h1 => by omega⟩
theorem NextX.far {n : Nat} {o h m : Int} (ho : ¬ o < (n : Int)) (ha : SrcAt n o) : NextX n o h m ((nxV (nxH h)).tmod m) o (nxH h) :=
  ⟨below_mod (src_x _).1, ha, fun _ h1 => absurd h1 ho, fun _ _ => ⟨rfl, rfl, rfl⟩⟩
theorem NextX.near {n : Nat} {o h m y h2 : Int} (ho : o < (n : Int)) (hn : n ≤ 4096) (ha : SrcAt n o) (hy : 0 ≤ y) : NextX n o h m (y.tmod m) (w64 (o + 1)) h2 :=
  ⟨below_mod hy, ha.next hn ho, fun _ _ => by have := ha.lo; rw [w64_in (by omega) (by omega)], fun _ h1 => absurd ho h1⟩
theorem NextX.step {n : Nat} {o h m x o2 h2 : Int} (hx : NextX n o h m x o2 h2) (hm : 1 ≤ m) (ha : SrcAt n o) : (o < n ∧ o2 = o + 1) ∨ (o = n ∧ o2 = n ∧ h2 = nxH h) := by
  by_cases ho : o < (n : Int)
  · exact .inl ⟨ho, hx.in_ hm ho⟩
  · have := ha.hi
    obtain ⟨h1, h3, _⟩ := hx.out hm ho
    exact .inr ⟨by omega, by omega, h3⟩
theorem u64wrap (a : Int) : IntKind.u64.wrap a = a % 18446744073709551616 := rfl
theorem nxH_lcg {h : Int} {g : Nat} (e : h % 18446744073709551616 = (g : Int)) : nxH h = ((lcg g : Nat) : Int) := by
  unfold nxH u64add u64mul lcg
  rw [u64wrap, u64wrap]
  omega
theorem nxH_mod (h : Int) : nxH h % 18446744073709551616 = nxH h := by
  unfold nxH u64add
  rw [u64wrap]; omega
theorem u64shr31 (a : Int) : u64shr a 31 = a / 2147483648 := by
  unfold u64shr
  rw [Int.fdiv_eq_ediv_of_nonneg _ (by decide)]
  rfl
theorem u64and_low {a : Int} (h0 : 0 ≤ a) (h1 : a < 18446744073709551616) : u64and a 1073741823 = a % 1073741824 := by
  obtain ⟨k, rfl⟩ := Int.eq_ofNat_of_zero_le h0
  unfold u64and
  have e : (BitVec.ofInt IntKind.u64.bits (k : Int) &&& BitVec.ofInt IntKind.u64.bits 1073741823).toNat = k % 1073741824 := by
    rw [BitVec.toNat_and]
    have e1 : (BitVec.ofInt IntKind.u64.bits (k : Int)).toNat = k := by
      show (BitVec.ofInt 64 (k : Int)).toNat = k
      rw [BitVec.toNat_ofInt]
      omega
    have e2 : (BitVec.ofInt IntKind.u64.bits 1073741823).toNat = 2 ^ 30 - 1 := rfl
    rw [e1, e2, Nat.and_two_pow_sub_one_eq_mod]
  rw [e, u64wrap]
  omega
theorem nxV_eq {g : Nat} (hg : g < 18446744073709551616) : nxV (g : Int) = ((g / 2147483648 % 1073741824 : Nat) : Int) := by
  unfold nxV
  rw [u64shr31, u64and_low (by omega) (by omega), w64_in (by omega) (by omega)]
  omega
theorem lcg_lt (g : Nat) : lcg g < 18446744073709551616 := Nat.mod_lt _ (by decide)
/-- A look that is good, behind the code's end. -/
theorem NextX.good {n : Nat} {o h x o2 h2 : Int} {g : Nat} (hx : NextX n o h 3 x o2 h2) (ho : ¬ o < (n : Int)) (e : h % 18446744073709551616 = (g : Int)) (h0 : x = 0) : good3 (lcg g) := by
  obtain ⟨_, _, h3⟩ := hx.out (by omega) ho
  rw [nxH_lcg e, nxV_eq (lcg_lt g), h0, tmod_pos (by omega)] at h3
  unfold good3
  omega

/-! ### A text that is damaged -/
structure DmgX (n : Nat) (o h : Int) (a b : Nat) (o2 h2 : Int) : Prop where
  at_ : SrcAt n o2
  in_ : o < n → o < o2 ∧ b ≤ a + 1
  out : ¬ o < n → o2 = o ∧ ((a = 0 ∧ b = 1 ∧ h2 = nxH h) ∨ (a ≠ 0 ∧ b ≤ a + 1 ∧ h2 = nxH (nxH (nxH h))))
theorem DmgX.one {n : Nat} {o h x o1 h1 : Int} {a b : Nat} (ha : SrcAt n o) (h10 : NextX n o h 10 x o1 h1) (h0 : a = 0) (hb : b = 1) : DmgX n o h a b o1 h1 := by
  refine ⟨h10.at_, fun ho => ?_, fun ho => ?_⟩
  · have := h10.in_ (by omega) ho
    omega
  · obtain ⟨e1, e2, _⟩ := h10.out (by omega) ho
    exact ⟨e1, .inl ⟨h0, hb, e2⟩⟩
theorem DmgX.three {n : Nat} {o h x o1 h1 y o2 h2 w o3 h3 : Int} {a b : Nat} (ha : SrcAt n o) (h10 : NextX n o h 10 x o1 h1) (hk : NextX n o1 h1 (a : Int) y o2 h2) (hs : NextX n o2 h2 3 w o3 h3) (h0 : a ≠ 0) (hb : b ≤ a + 1) : DmgX n o h a b o3 h3 := by
  have s1 := h10.step (by omega) ha
  have s2 := hk.step (by omega) h10.at_
  have s3 := hs.step (by omega) hk.at_
  refine ⟨hs.at_, fun ho => ?_, fun ho => ?_⟩
  · have := ha.hi
    omega
  · rcases s1 with s1 | ⟨p1, p2, p3⟩
    · exact absurd s1.1 ho
    · rcases s2 with s2 | ⟨q1, q2, q3⟩
      · omega
      · rcases s3 with s3 | ⟨r1, r2, r3⟩
        · omega
        · refine ⟨by omega, .inr ⟨h0, hb, ?_⟩⟩
          rw [r3, q3, p3]
def zOf (h : Int) : Nat := (h % 18446744073709551616).toNat
theorem zOf_eq (h : Int) : h % 18446744073709551616 = ((zOf h : Nat) : Int) := by unfold zOf; omega
/-- The state of the loop: z, where the code ended; m, the draws since then. -/
structure DmgI (n : Nat) (o h : Int) (z m : Nat) (t : ByteArray) : Prop where
  at_ : SrcAt n o
  near : o < n → t.size ≤ 500 + o.toNat ∧ m = 0
  far : ¬ o < n → h % 18446744073709551616 = ((itL z m : Nat) : Int) ∧ Passed z m ∧ 4 * t.size ≤ 4 * (500 + n) + m + 4
theorem DmgI.start {n : Nat} {o h : Int} {t : ByteArray} (ha : SrcAt n o) (ht : t.size ≤ 500) : DmgI n o h (zOf h) 0 t :=
  ⟨ha, fun _ => ⟨by omega, rfl⟩, fun _ => ⟨zOf_eq h, .zero, by omega⟩⟩
def zNx (n : Nat) (o h2 : Int) (z : Nat) : Nat := if o < (n : Int) then zOf h2 else z
def mNx (n : Nat) (o : Int) (a m : Nat) : Nat := if o < (n : Int) then 0 else if a = 0 then m + 2 else m + 4
theorem DmgI.next {n : Nat} {o h x o1 h1 o2 h2 : Int} {z m : Nat} {t t2 : ByteArray} (hI : DmgI n o h z m t) (hx : NextX n o h 3 x o1 h1) (h0 : decide (x = 0) = true) (hd : DmgX n o1 h1 t.size t2.size o2 h2) :
    DmgI n o2 h2 (zNx n o h2 z) (mNx n o t.size m) t2 := by
  have h0 := of_decide_eq_true h0
  have ha := hI.at_
  by_cases ho : o < (n : Int)
  · have e1 := hx.in_ (by omega) ho
    obtain ⟨n1, n2⟩ := hI.near ho
    have hlo := ha.lo
    have hle : o1 ≤ o2 ∧ t2.size ≤ t.size + 1 := by
      by_cases ho1 : o1 < (n : Int)
      · have := hd.in_ ho1; omega
      · have := hd.out ho1; omega
    have ez : zNx n o h2 z = zOf h2 := if_pos ho
    have em : mNx n o t.size m = 0 := if_pos ho
    have h2i := hd.at_.hi
    rw [ez, em]
    exact ⟨hd.at_, fun _ => ⟨by omega, rfl⟩, fun _ => ⟨zOf_eq h2, .zero, by omega⟩⟩
  · obtain ⟨e, hp, hs⟩ := hI.far ho
    obtain ⟨e1, e2, _⟩ := hx.out (by omega) ho
    have hg := hx.good ho e h0
    have ho1 : ¬ o1 < (n : Int) := by omega
    obtain ⟨d1, d2⟩ := hd.out ho1
    have ez : zNx n o h2 z = z := if_neg ho
    rw [ez]
    have g1 : h1 = ((itL z (m + 1) : Nat) : Int) := by rw [e2, nxH_lcg e]; rfl
    have k1 : h1 % 18446744073709551616 = ((itL z (m + 1) : Nat) : Int) := by rw [g1]; have := lcg_lt (itL z m); show ((lcg (itL z m) : Nat) : Int) % _ = ((lcg (itL z m) : Nat) : Int); omega
    have k2 : nxH h1 = ((itL z (m + 2) : Nat) : Int) := by rw [nxH_lcg k1]; rfl
    rcases d2 with ⟨a0, b1, d3⟩ | ⟨a0, b1, d3⟩
    · have em : mNx n o t.size m = m + 2 := by unfold mNx; rw [if_neg ho, if_pos a0]
      rw [em]
      refine ⟨hd.at_, fun h => by omega, fun _ => ⟨?_, hp.two hg, by omega⟩⟩
      rw [d3, nxH_mod, k2]
    · have em : mNx n o t.size m = m + 4 := by unfold mNx; rw [if_neg ho, if_neg a0]
      rw [em]
      refine ⟨hd.at_, fun h => by omega, fun _ => ⟨?_, hp.four hg, by omega⟩⟩
      have m2 : nxH h1 % 18446744073709551616 = ((itL z (m + 2) : Nat) : Int) := by rw [nxH_mod, k2]
      have k3 : nxH (nxH h1) = ((itL z (m + 3) : Nat) : Int) := by rw [nxH_lcg m2]; rfl
      have m3 : nxH (nxH h1) % 18446744073709551616 = ((itL z (m + 3) : Nat) : Int) := by rw [nxH_mod, k3]
      rw [d3, nxH_mod, nxH_lcg m3]
      rfl
def dmgMu (n : Nat) (o : Int) (m : Nat) : Nat := ((n : Int) - o).toNat * 1099511627776 + (68719476736 - m)
theorem DmgI.mu {n : Nat} {o h x o1 h1 o2 h2 : Int} {z m : Nat} {t t2 : ByteArray} (hI : DmgI n o h z m t) (hx : NextX n o h 3 x o1 h1) (h0 : decide (x = 0) = true) (hd : DmgX n o1 h1 t.size t2.size o2 h2) :
    dmgMu n o2 (mNx n o t.size m) < dmgMu n o m := by
  have hn := hI.next hx h0 hd
  have ha := hI.at_
  unfold dmgMu
  by_cases ho : o < (n : Int)
  · have e1 := hx.in_ (by omega) ho
    obtain ⟨n1, n2⟩ := hI.near ho
    have hle : o1 ≤ o2 := by
      by_cases ho1 : o1 < (n : Int)
      · have := hd.in_ ho1; omega
      · have := hd.out ho1; omega
    have em : mNx n o t.size m = 0 := if_pos ho
    rw [em, n2]
    omega
  · obtain ⟨e, hp, hs⟩ := hI.far ho
    obtain ⟨e1, e2, _⟩ := hx.out (by omega) ho
    have hb := hp.bound
    have ho1 : ¬ o1 < (n : Int) := by omega
    obtain ⟨d1, d2⟩ := hd.out ho1
    have em : m + 2 ≤ mNx n o t.size m := by
      unfold mNx; rw [if_neg ho]
      split <;> omega
    rw [d1, e1]
    omega
theorem DmgI.small {n : Nat} {o h : Int} {z m : Nat} {t : ByteArray} (hI : DmgI n o h z m t) (hn : n ≤ 4096) : t.size < 4294967281 := by
  have ha := hI.at_
  by_cases ho : o < (n : Int)
  · have := (hI.near ho).1
    omega
  · obtain ⟨e, hp, hs⟩ := hI.far ho
    have := hp.bound
    omega
end Go.Ev
end

section
/-
  Draws of lists: the states of their loops. The plain law.
  Conditions: none.
-/
set_option linter.unusedVariables false
set_option linter.unusedSimpArgs false
namespace Go.Ev

theorem splice_two (a b : Value) (l : List Value) (o : Nat) (vs : List Value) : splice (a :: b :: l) (o + 1 + 1) vs = a :: b :: splice l o vs := by
  unfold splice
  rw [show o + 1 + 1 + vs.length = o + vs.length + 1 + 1 by omega]
  rfl
theorem plS_set : ∀ (ps : List (Int × Int)) (i : Nat) (v : Int × Int) (sp : List Value), i < ps.length → splice (pl ps ++ sp) (i * 2) [iv v.1, iv v.2] = pl (ps.set i v) ++ sp
  | [], i, v, sp, h => by simp at h
  | p :: ps, 0, v, sp, h => rfl
  | p :: ps, i + 1, v, sp, h => by
    have ih := plS_set ps i v sp (by simpa using h)
    rw [pl_cons, List.set_cons_succ, pl_cons]
    show splice (iv p.1 :: iv p.2 :: (pl ps ++ sp)) ((i + 1) * 2) _ = _
    rw [show (i + 1) * 2 = i * 2 + 1 + 1 by omega, splice_two, ih]; rfl
theorem setS_pl {off i : Nat} {ps qs : List (Int × Int)} {sp : List Value} {v w : Int} {k : List Value → Prop} (ho : off = i * 2) (h : i < ps.length) (hy : ps.set i (v, w) = qs) (hk : k (pl qs ++ sp)) : forceL (splice (pl ps ++ sp) off [iv v, iv w]) k := by
  subst ho
  rw [forceL_eq, plS_set ps i (v, w) sp h, hy]
  exact hk
theorem row_setP {Q : List (Int × Int)} {sp : List Value} {n c : Nat} (h : Row (pl Q) sp n c 2) (v : Int × Int) : Row (pl (Q.set 0 v)) sp n c 2 := by
  have hl : (pl (Q.set 0 v)).length = (pl Q).length := by rw [pl_len, pl_len, List.length_set]
  exact ⟨by rw [hl]; exact h.len, by rw [hl]; exact h.cap, pl_plain _, h.ps⟩
/-- Points that are drawn: k are to come. -/
structure DlI (k : Int) (Q : List (Int × Int)) (S : List Value) (q e : Nat) : Prop where
  row : Row (pl Q) S q e 2
  k0 : 0 ≤ k
  bd : (q : Int) + k ≤ 6
  ok : Q.any badP = false
theorem DlI.start {m x : Int} (hm0 : 0 ≤ m) (hm : m ≤ 6) (hx : Below1 (w64 (m + 1)) x) : DlI x [] [] 0 0 := by
  rw [w64_in (by omega) (by omega)] at hx
  have := hx (by omega)
  exact ⟨Row.empty, this.1, by omega, rfl⟩
theorem most3 {y : Int} (h : y ∈ [3, 12, 1000]) : 1 ≤ y ∧ y ≤ 1000000 := by
  simp only [List.mem_cons, List.not_mem_nil, or_false] at h
  omega
theorem size6 {y : Int} (h : y ∈ [3, 6, 12, 100, 1000, 1000000]) : 1 ≤ y ∧ y ≤ 1000000 := by
  simp only [List.mem_cons, List.not_mem_nil, or_false] at h
  omega
theorem sm_pt {x y : Int} (h : sm x 1000000 ∧ sm y 1000000) : isPtF x y = true := by
  obtain ⟨h1, h2⟩ := h
  unfold sm at h1 h2
  exact isPtF_iff.2 (by omega)
theorem DlI.next {k : Int} {Q : List (Int × Int)} {S S' : List Value} {q e e' : Nat} {x y : Int} (h : DlI k Q S q e) (hk : decide (k > 0) = true) (hp : isPtF x y = true) (hr : Row (pl Q ++ [iv x, iv y]) S' (q + 1) e' 2) : DlI (w64 (k - 1)) (Q ++ [(x, y)]) S' (q + 1) e' := by
  have hk := of_decide_eq_true hk
  have := h.bd
  rw [w64_in (by omega) (by omega)]
  refine ⟨by rw [pl_snoc]; exact hr, by omega, by omega, ?_⟩
  rw [List.any_append, h.ok, List.any_cons, badP, hp]
  rfl
theorem DlI.mu {k : Int} {Q : List (Int × Int)} {S : List Value} {q e : Nat} (h : DlI k Q S q e) (hk : decide (k > 0) = true) : (w64 (k - 1)).toNat < k.toNat := by
  have hk := of_decide_eq_true hk
  have := h.bd
  rw [w64_in (by omega) (by omega)]; omega
theorem DlI.num {k : Int} {Q : List (Int × Int)} {S : List Value} {q e : Nat} (h : DlI k Q S q e) : q ≤ 6 := by have := h.bd; have := h.k0; omega
/-- Numbers that are drawn: k are to come. -/
structure FrcI (k : Int) (X : List Int) (S : List Value) (q e : Nat) : Prop where
  row : Row (il X) S q e 1
  k0 : 0 ≤ k
  bd : (q : Int) + k ≤ 31
theorem FrcI.start {v x y : Int} {S : List Value} {e : Nat} (hy : y ∈ [4, 8, 30]) (hx : Below1 y x) (hr : Row [iv v] S 1 e 1) : FrcI x [v] S 1 e := by
  simp only [List.mem_cons, List.not_mem_nil, or_false] at hy
  have := hx (by omega)
  exact ⟨hr, this.1, by omega⟩
theorem FrcI.next {k v : Int} {X : List Int} {S S' : List Value} {q e e' : Nat} (h : FrcI k X S q e) (hk : decide (k > 0) = true) (hr : Row (il X ++ [iv v]) S' (q + 1) e' 1) : FrcI (w64 (k - 1)) (X ++ [v]) S' (q + 1) e' := by
  have hk := of_decide_eq_true hk
  have := h.bd
  rw [w64_in (by omega) (by omega)]
  exact ⟨by rw [il_snoc]; exact hr, by omega, by omega⟩
theorem FrcI.mu {k : Int} {X : List Int} {S : List Value} {q e : Nat} (h : FrcI k X S q e) (hk : decide (k > 0) = true) : (w64 (k - 1)).toNat < k.toNat := by
  have hk := of_decide_eq_true hk
  have := h.bd
  rw [w64_in (by omega) (by omega)]; omega
structure FrpI (X : List Int) (S : List Value) (q e : Nat) : Prop where
  row : Row (il X) S q e 1
  bd : q ≤ 61
theorem FrcI.more {k : Int} {X : List Int} {S : List Value} {q e : Nat} (h : FrcI k X S q e) : FrpI X S q e := ⟨h.row, by have := h.bd; have := h.k0; omega⟩
theorem FrpI.next {v : Int} {X : List Int} {S S' : List Value} {q e e' : Nat} (h : FrpI X S q e) (hk : decide ((q : Int) ≤ 60) = true) (hr : Row (il X ++ [iv v]) S' (q + 1) e' 1) : FrpI (X ++ [v]) S' (q + 1) e' := by
  have := of_decide_eq_true hk
  exact ⟨by rw [il_snoc]; exact hr, by omega⟩
theorem FrpI.mu {q : Nat} (hk : decide ((q : Int) ≤ 60) = true) : 61 - (q + 1) < 61 - q := by
  have := of_decide_eq_true hk
  omega
/-! ### The signs that damage -/
abbrev signL : List Value := [.string ⟨#[48]⟩, .string ⟨#[49]⟩, .string ⟨#[50]⟩, .string ⟨#[57]⟩, .string ⟨#[44]⟩, .string ⟨#[59]⟩, .string ⟨#[45]⟩, .string ⟨#[32]⟩, .string ⟨#[120]⟩, .string ⟨#[10]⟩]
theorem sign_at {i : Nat} (h : i < 10) : ∃ c : ByteArray, c.size = 1 ∧ List.take 1 (List.drop i signL) = [.string c] := by
  match i, h with
  | 0, _ => exact ⟨_, rfl, rfl⟩
  | 1, _ => exact ⟨_, rfl, rfl⟩
  | 2, _ => exact ⟨_, rfl, rfl⟩
  | 3, _ => exact ⟨_, rfl, rfl⟩
  | 4, _ => exact ⟨_, rfl, rfl⟩
  | 5, _ => exact ⟨_, rfl, rfl⟩
  | 6, _ => exact ⟨_, rfl, rfl⟩
  | 7, _ => exact ⟨_, rfl, rfl⟩
  | 8, _ => exact ⟨_, rfl, rfl⟩
  | 9, _ => exact ⟨_, rfl, rfl⟩
theorem sign_take {i o : Nat} (ho : o = i) (h : i < 10) : ∃ c : ByteArray, c.size = 1 ∧ List.take 1 (List.drop o signL) = [.string c] := by
  subst ho; exact sign_at h
end Go.Ev
end

section
/-
  Texts that are damaged: sizes. The plain law.
  Conditions: none.
-/
set_option linter.unusedVariables false
set_option linter.unusedSimpArgs false
namespace Go.Ev

theorem dmg_k {n : Nat} {o h x o2 h2 : Int} {t : ByteArray} (hx : NextX n o h (t.size : Int) x o2 h2) (h0 : decide ((t.size : Int) = 0) = false) (ht : t.size < 4294967281) : 0 ≤ x ∧ x < (t.size : Int) ∧ w64 (x + 1) = x + 1 := by
  have h0 := of_decide_eq_false h0
  have := hx.bel (by omega)
  exact ⟨this.1, this.2, w64_in (by omega) (by omega)⟩
theorem dmg_c1 {x : Int} {t : ByteArray} (h : 0 ≤ x ∧ x < (t.size : Int) ∧ w64 (x + 1) = x + 1) : decide (0 ≤ x ∧ x ≤ (t.size : Int)) = true := decide_eq_true ⟨h.1, by omega⟩
theorem dmg_c2 {x : Int} {t : ByteArray} (h : 0 ≤ x ∧ x < (t.size : Int) ∧ w64 (x + 1) = x + 1) : decide (0 ≤ w64 (x + 1) ∧ w64 (x + 1) ≤ (t.size : Int)) = true := decide_eq_true ⟨by omega, by omega⟩
theorem dmg_nz {t : ByteArray} (h0 : decide ((t.size : Int) = 0) = false) : t.size ≠ 0 := by have := of_decide_eq_false h0; omega
theorem dmg_z {t : ByteArray} (h0 : decide ((t.size : Int) = 0) = true) : t.size = 0 := by have := of_decide_eq_true h0; omega
theorem dmg_a1 {x : Int} {t s : ByteArray} (ht : t.size < 4294967281) (hs : s.size = 1) : (t.extract 0 x.toNat).size + s.size ≤ 9223372036854775807 := by
  rw [ByteArray.size_extract]; omega
theorem dmg_a2 {x y : Int} {t s : ByteArray} (ht : t.size < 4294967281) (hs : s.size = 1) : (t.extract 0 x.toNat ++ s).size + (t.extract y.toNat t.size).size ≤ 9223372036854775807 := by
  rw [ByteArray.size_append, ByteArray.size_extract, ByteArray.size_extract]; omega
theorem dmg_a3 {x y : Int} {t : ByteArray} (ht : t.size < 4294967281) : (t.extract 0 x.toNat).size + (t.extract y.toNat t.size).size ≤ 9223372036854775807 := by
  rw [ByteArray.size_extract, ByteArray.size_extract]; omega
theorem dmg_s1 {x : Int} {t s : ByteArray} (h : 0 ≤ x ∧ x < (t.size : Int) ∧ w64 (x + 1) = x + 1) (hs : s.size = 1) : (t.extract 0 x.toNat ++ s ++ t.extract (w64 (x + 1)).toNat t.size).size ≤ t.size + 1 := by
  rw [ByteArray.size_append, ByteArray.size_append, ByteArray.size_extract, ByteArray.size_extract, h.2.2]; omega
theorem dmg_s2 {x : Int} {t : ByteArray} (h : 0 ≤ x ∧ x < (t.size : Int) ∧ w64 (x + 1) = x + 1) : (t.extract 0 x.toNat ++ t.extract (w64 (x + 1)).toNat t.size).size ≤ t.size + 1 := by
  rw [ByteArray.size_append, ByteArray.size_extract, ByteArray.size_extract, h.2.2]; omega
theorem dmg_s3 {x : Int} {t s : ByteArray} (h : 0 ≤ x ∧ x < (t.size : Int) ∧ w64 (x + 1) = x + 1) (hs : s.size = 1) : (t.extract 0 x.toNat ++ s ++ t.extract x.toNat t.size).size ≤ t.size + 1 := by
  rw [ByteArray.size_append, ByteArray.size_append, ByteArray.size_extract, ByteArray.size_extract]; omega
end Go.Ev
end
