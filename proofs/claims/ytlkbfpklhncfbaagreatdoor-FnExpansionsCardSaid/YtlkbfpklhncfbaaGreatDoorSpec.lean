/-
  Plain functions on whole numbers: what the program's functions compute, wraps and all; loops by recursion.
  Conditions: none.
-/
import Derived.Test.YtlkbfpklhncfbaaGreatDoorEvFn
set_option linter.unusedVariables false
set_option linter.unusedSimpArgs false
namespace Go.Ev
open Go.RowKit

/-! ## Loops -/

theorem enter_same {m0 : Nat} {L : List Value → Mem → Prop} {tm : List Value} {mem : Mem} (h : L tm mem) : EnterK m0 L tm mem := ⟨next_same h⟩
theorem enter_forget {m0 : Nat} {L : List Value → Mem → Prop} {tm tm' : List Value} {mem mem' : Mem} (κ : List Nat) (h : L tm' mem') (ht : tmR (keepL m0 κ) mem'.length tm tm')
    (hb : memR (keepL m0 κ) mem'.length mem (keepL m0 κ) mem') (hlt : ltAll mem.length (keepL m0 κ) = true) (hnd : nodupN (keepL m0 κ) = true) : EnterK m0 L tm mem :=
  ⟨next_forget κ h ht hb hlt hnd⟩

theorem loop_rec {m0 : Nat} {body : List Value → Mem → Post → Prop} {K : Post} {S : Type} (lay : S → List Value) (lm : S → Mem) (μ : S → Nat) (I : S → Prop) (s0 : S) (h0 : I s0)
    (h : ∀ (n : Nat) (s : S), I s → (∀ s', I s' → μ s' < μ s → loopN m0 body n (lay s') (lm s') K) → forceL (lay s) fun tm => forceL (lm s) fun mem => body tm mem (fun e tm' mem' => match e with
      | .normal => NextK m0 (fun tm mem => loopN m0 body n tm mem K) tm' mem'
      | e => K e tm' mem')) : LoopK m0 body (lay s0) (lm s0) K := by
  have main : ∀ (n : Nat) (s : S), I s → μ s < n → loopN m0 body n (lay s) (lm s) K := by
    intro n
    induction n with
    | zero => intro s _ hlt; omega
    | succ n ih =>
      intro s hs hlt
      have h' := h n s hs fun s' hs' hlt' => ih s' hs' (by omega)
      rw [forceL_eq, forceL_eq] at h'
      exact h'
  exact ⟨_, main (μ s0 + 1) s0 h0 (by omega)⟩

theorem loop_rec0 {m0 : Nat} {body : List Value → Mem → Post → Prop} {K : Post} {mem : Mem} {S : Type} (lay : S → List Value) (μ : S → Nat) (I : S → Prop) (s0 : S) (h0 : I s0)
    (h : ∀ (n : Nat) (s : S), I s → (∀ s', I s' → μ s' < μ s → loopN m0 body n (lay s') mem K) → forceL (lay s) fun tm => forceL mem fun mem => body tm mem (fun e tm' mem' => match e with
      | .normal => NextK m0 (fun tm mem => loopN m0 body n tm mem K) tm' mem'
      | e => K e tm' mem')) : LoopK m0 body (lay s0) mem K := loop_rec lay (fun _ => mem) μ I s0 h0 h

/-! ## Wraps -/

theorem w64_def (n : Int) : w64 n = (n + 9223372036854775808) % 18446744073709551616 - 9223372036854775808 := by rw [w64_eq]; unfold wrap64; rfl
theorem w64_in {n : Int} (h1 : -9223372036854775808 ≤ n) (h2 : n ≤ 9223372036854775807) : w64 n = n := by rw [w64_def]; omega
theorem w64_add_r (a b : Int) : w64 (a + w64 b) = w64 (a + b) := by simp only [w64_def]; omega
theorem w64_add_l (a b : Int) : w64 (w64 a + b) = w64 (a + b) := by simp only [w64_def]; omega
theorem w64_sub_r (a b : Int) : w64 (a - w64 b) = w64 (a - b) := by simp only [w64_def]; omega
theorem w64_sub_l (a b : Int) : w64 (w64 a - b) = w64 (a - b) := by simp only [w64_def]; omega
theorem w64_w64 (a : Int) : w64 (w64 a) = w64 a := by simp only [w64_def]; omega
theorem w64_bounds (n : Int) : -9223372036854775808 ≤ w64 n ∧ w64 n ≤ 9223372036854775807 := by rw [w64_def]; omega

def selF (b : Bool) (x y : Int) : Int := match b with
  | true => x
  | false => y
def codeF (b : Bool) : Int := match b with
  | true => 0
  | false => 1

theorem codeF_zero (b : Bool) : decide (codeF b = 0) = b := by cases b <;> rfl
theorem br_code {b : Bool} {A B : Prop} (h : brK b A B) : brK (decide (codeF b = 0)) A B := by rw [codeF_zero]; exact h
theorem br_or {a b : Bool} {A B : Prop} (h : brK a A (brK b A B)) : brK (a || b) A B := by cases a <;> exact h
theorem br_and {a b : Bool} {A B : Prop} (h : brK a (brK b A B) B) : brK (a && b) A B := by cases a <;> exact h
theorem br_eq2 {a b c d : Int} {k l m n : IntKind} {A B : Prop} (h : brK (decide (a = c)) (brK (decide (b = d)) A B) B) : brK (eqCells [.int k a, .int l b] [.int m c, .int n d]) A B := by
  have : eqCells [.int k a, .int l b] [.int m c, .int n d] = (decide (a = c) && (decide (b = d) && true)) := rfl
  rw [this, Bool.and_true]
  exact br_and h

def inF (n l h : Int) : Bool := decide (n ≥ l) && decide (n ≤ h)
def isCoordF (n : Int) : Bool := inF n (-1000000) 1000000
def isPtF (a b : Int) : Bool := isCoordF a && isCoordF b
def detF (a b c d : Int) : Int := w64 (w64 (a * d) - w64 (b * c))
def plusF (a k c : Int) : Int := w64 (a + w64 (k * c))
def sizeF (n : Int) : Int := maxi n (w64 (0 - n))
def areaF (a b c d e f : Int) : Int := sizeF (detF (plusF c (-1) a) (plusF d (-1) b) (plusF e (-1) a) (plusF f (-1) b))
def smallF (a b : Int) : Bool := inF a (-1000) 1000 && inF b (-1000) 1000
def isTriF (a b c d e f : Int) : Bool := smallF a b && smallF c d && smallF e f && !decide (areaF a b c d e f = 0)

theorem plusF_neg (a c : Int) : plusF a (-1) c = w64 (a - c) := by
  unfold plusF
  rw [w64_add_r]
  congr 1
  omega

/-- Euclid's steps. -/
def gcdL (a b : Int) : Int := if h : b = 0 then a else gcdL b (a.tmod b)
termination_by b.natAbs
decreasing_by
  have h1 : (a.tmod b).natAbs = a.natAbs % b.natAbs := Int.natAbs_tmod a b
  have h2 := Nat.mod_lt a.natAbs (show 0 < b.natAbs by omega)
  omega
theorem gcdL_zero (a : Int) : gcdL a 0 = a := by unfold gcdL; simp
theorem gcdL_step {a b : Int} (h : b ≠ 0) : gcdL a b = gcdL b (a.tmod b) := by rw [gcdL]; simp [h]
theorem tmod_lt {a b : Int} (h : b ≠ 0) : (a.tmod b).natAbs < b.natAbs := by
  have h1 : (a.tmod b).natAbs = a.natAbs % b.natAbs := Int.natAbs_tmod a b
  have h2 := Nat.mod_lt a.natAbs (show 0 < b.natAbs by omega)
  omega
theorem natAbs_gcdL : ∀ (n : Nat) (a b : Int), b.natAbs ≤ n → (gcdL a b).natAbs = Int.gcd a b
  | 0, a, b, h => by
    have : b = 0 := by omega
    subst this
    rw [gcdL_zero]; simp
  | n + 1, a, b, h => by
    by_cases hb : b = 0
    · subst hb; rw [gcdL_zero]; simp
    · rw [gcdL_step hb, natAbs_gcdL n _ _ (by have := tmod_lt (a := a) hb; omega)]
      have h1 : (a.tmod b).natAbs = a.natAbs % b.natAbs := Int.natAbs_tmod a b
      simp only [Int.gcd, h1]
      rw [Nat.gcd_comm, ← Nat.gcd_rec, Nat.gcd_comm]
theorem gcdL_abs (a b : Int) : (gcdL a b).natAbs = Int.gcd a b := natAbs_gcdL _ a b (Nat.le_refl _)

def gcdF (a b : Int) : Int := sizeF (gcdL a b)

theorem sizeF_abs {n : Int} (h : -9223372036854775807 ≤ n) (h2 : n ≤ 9223372036854775807) : sizeF n = (n.natAbs : Int) := by
  unfold sizeF
  rw [w64_in (by omega) (by omega)]
  unfold maxi
  split <;> omega
theorem gcd_le {a b : Int} {m : Nat} (ha : a.natAbs ≤ m) (hb : b.natAbs ≤ m) : Int.gcd a b ≤ m := by
  by_cases h : b = 0
  · subst h; simpa using ha
  · exact Nat.le_trans (Nat.le_of_dvd (by omega) (Nat.gcd_dvd_right a.natAbs b.natAbs)) hb
theorem gcdF_eq {a b : Int} (ha : a.natAbs ≤ 9223372036854775807) (hb : b.natAbs ≤ 9223372036854775807) : gcdF a b = (Int.gcd a b : Int) := by
  unfold gcdF
  have h1 := gcdL_abs a b
  have h2 := gcd_le ha hb
  rw [sizeF_abs (by omega) (by omega), h1]

def idx2F (p q : Bool) : Int := match p with
  | true => match q with
    | true => -1
    | false => 1
  | false => 0
def idx3F (p q r : Bool) : Int := match p with
  | true => match q with
    | true => match r with
      | true => -1
      | false => 2
    | false => 1
  | false => 0
def idx1F (p : Bool) : Int := match p with
  | true => -1
  | false => 0
theorem idx1_ge (p : Bool) : decide (idx1F p ≥ 0) = !p := by cases p <;> rfl
theorem idx2_ge (p q : Bool) : decide (idx2F p q ≥ 0) = !(p && q) := by cases p <;> cases q <;> rfl
theorem idx3_ge (p q r : Bool) : decide (idx3F p q r ≥ 0) = !(p && q && r) := by cases p <;> cases q <;> cases r <;> rfl

end Go.Ev
