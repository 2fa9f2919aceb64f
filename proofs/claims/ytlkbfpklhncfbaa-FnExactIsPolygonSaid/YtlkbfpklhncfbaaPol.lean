/-
  Polygons as lists of points: what the program and the reference compute, and that they compute the same.
  Conditions: none.
-/
import Derived.Test.YtlkbfpklhncfbaaPoly
import Derived.Test.YtlkbfpklhncfbaaPlace
set_option linter.unusedVariables false
set_option linter.unusedSimpArgs false
namespace Go.Ev

def trnF (a b c d e f : Int) : Int := detF (plusF c (-1) a) (plusF d (-1) b) (plusF e (-1) c) (plusF f (-1) d)
def halfF (a b : Int) : Int := selF (decide (b > 0) || (decide (b = 0) && decide (a > 0))) 0 1

/-- The point i of a list, around. -/
abbrev pn (P : List (Int × Int)) (i : Nat) : Int × Int := P.getD (i % P.length) (0, 0)
def trnP (P : List (Int × Int)) (i j k : Nat) : Int := trnF (pn P i).1 (pn P i).2 (pn P j).1 (pn P j).2 (pn P k).1 (pn P k).2
def cvOk (P : List (Int × Int)) (i k : Nat) : Bool := decide (k = i) || decide (k = (i + 1) % P.length) || decide (0 < trnP P i (i + 1) k)
def convB (P : List (Int × Int)) : Bool := (List.range P.length).all fun i => (List.range P.length).all fun k => cvOk P i k
def okS (P : List (Int × Int)) (i : Nat) : Bool := smallF (pn P i).1 (pn P i).2 && isPtF (pn P (i + 1)).1 (pn P (i + 1)).2 && isPtF (pn P (i + 2)).1 (pn P (i + 2)).2 && decide (0 < trnP P i (i + 1) (i + 2))
def flipS (P : List (Int × Int)) (i : Nat) : Bool :=
  decide (halfF (plusF (pn P (i + 1)).1 (-1) (pn P i).1) (plusF (pn P (i + 1)).2 (-1) (pn P i).2) = 1) &&
  decide (halfF (plusF (pn P (i + 2)).1 (-1) (pn P (i + 1)).1) (plusF (pn P (i + 2)).2 (-1) (pn P (i + 1)).2) = 0)
def specB (P : List (Int × Int)) : Bool := (List.range P.length).all (okS P) && decide (cntB (flipS P) P.length = 1)
def nsm (p : Int × Int) : Bool := !smallF p.1 p.2
def polyI (P : List (Int × Int)) : Bool := inF P.length 3 12 && (!P.any nsm && convB P)
def polyS (P : List (Int × Int)) : Bool := inF P.length 3 12 && specB P

theorem all_range {n : Nat} {f : Nat → Bool} : (List.range n).all f = true ↔ ∀ i, i < n → f i = true := by
  rw [List.all_eq_true]
  exact ⟨fun h i hi => h i (List.mem_range.2 hi), fun h i hi => h i (List.mem_range.1 hi)⟩

section
variable {P : List (Int × Int)}

theorem pn_small (hs : P.any nsm = false) (hn : 0 < P.length) (j : Nat) : (-1000 ≤ (pn P j).1 ∧ (pn P j).1 ≤ 1000) ∧ (-1000 ≤ (pn P j).2 ∧ (pn P j).2 ≤ 1000) := by
  have hm : pn P j ∈ P := getD_mem (Nat.mod_lt _ hn)
  have := List.any_eq_false.1 hs _ hm
  unfold nsm at this
  rw [← smallF_iff]
  simpa using this

theorem small_dif {a b : Int} (h1 : -1000 ≤ a ∧ a ≤ 1000) (h2 : -1000 ≤ b ∧ b ≤ 1000) : plusF a (-1) b = a - b := by
  rw [plusF_neg, w64_in (by omega) (by omega)]
theorem small_det {a b c d : Int} (h1 : -2000 ≤ a ∧ a ≤ 2000) (h2 : -2000 ≤ b ∧ b ≤ 2000) (h3 : -2000 ≤ c ∧ c ≤ 2000) (h4 : -2000 ≤ d ∧ d ≤ 2000) : detF a b c d = crv a b c d := by
  have e1 := mul_abs (x := a) (y := d) (m := 2000) (n := 2000) h1.1 h1.2 h4.1 h4.2 (by omega)
  have e2 := mul_abs (x := b) (y := c) (m := 2000) (n := 2000) h2.1 h2.2 h3.1 h3.2 (by omega)
  unfold detF crv
  rw [w64_in (n := a * d) (by omega) (by omega), w64_in (n := b * c) (by omega) (by omega), w64_in (by omega) (by omega)]

def ux (P : List (Int × Int)) (j : Nat) : Int := (pn P j).1
def uy (P : List (Int × Int)) (j : Nat) : Int := (pn P j).2
def dx (P : List (Int × Int)) (j : Nat) : Int := ux P (j + 1) - ux P j
def dy (P : List (Int × Int)) (j : Nat) : Int := uy P (j + 1) - uy P j
theorem pn_per (P : List (Int × Int)) (j : Nat) : pn P (j + P.length) = pn P j := by unfold pn; rw [Nat.add_mod_right]
theorem chainP (P : List (Int × Int)) : Chain P.length (ux P) (uy P) (dx P) (dy P) :=
  ⟨fun j => by unfold ux; rw [pn_per], fun j => by unfold uy; rw [pn_per], fun _ => rfl, fun _ => rfl⟩

theorem trn_lft (hs : P.any nsm = false) (hn : 0 < P.length) (i k : Nat) : trnP P i (i + 1) k = Lft (ux P) (uy P) (dx P) (dy P) i k := by
  have h1 := pn_small hs hn i; have h2 := pn_small hs hn (i + 1); have h3 := pn_small hs hn k
  unfold trnP trnF
  rw [small_dif h2.1 h1.1, small_dif h2.2 h1.2, small_dif h3.1 h2.1, small_dif h3.2 h2.2, small_det (by omega) (by omega) (by omega) (by omega)]
  unfold Lft crv dx dy ux uy
  grind

theorem half_up {a b : Int} : halfF a b = 0 ↔ Up a b := by
  unfold halfF Up
  by_cases h1 : b > 0
  · simp [h1, selF]
  · by_cases h2 : b = 0 ∧ a > 0
    · simp [h2.1, h2.2, selF]
    · have h3 : (decide (b > 0) || (decide (b = 0) && decide (a > 0))) = false := by
        rw [Bool.eq_false_iff]
        intro h
        simp only [Bool.or_eq_true, Bool.and_eq_true, decide_eq_true_eq] at h
        omega
      rw [h3]
      simp only [selF]
      constructor
      · intro h; omega
      · intro h; omega
theorem half_dn {a b : Int} : halfF a b = 1 ↔ Dn a b := by
  constructor
  · intro h
    refine dn_of fun hu => ?_
    rw [half_up.2 hu] at h; omega
  · intro h
    have : ¬ halfF a b = 0 := fun h0 => not_up h (half_up.1 h0)
    unfold halfF at this ⊢
    generalize (decide (b > 0) || (decide (b = 0) && decide (a > 0))) = q at *
    cases q
    · rfl
    · exact absurd rfl this

theorem flip_iff (hs : P.any nsm = false) (hn : 0 < P.length) (i : Nat) : flipS P i = true ↔ Dn (dx P i) (dy P i) ∧ Up (dx P (i + 1)) (dy P (i + 1)) := by
  have h1 := pn_small hs hn i; have h2 := pn_small hs hn (i + 1); have h3 := pn_small hs hn (i + 2)
  unfold flipS
  rw [small_dif h2.1 h1.1, small_dif h2.2 h1.2, small_dif h3.1 h2.1, small_dif h3.2 h2.2]
  simp only [Bool.and_eq_true, decide_eq_true_eq]
  rw [half_dn, half_up]
  exact Iff.rfl

theorem conv_iff (hs : P.any nsm = false) (hn : 3 ≤ P.length) : convB P = true ↔ ∀ i, i < P.length → ∀ j, i + 2 ≤ j → j ≤ i + P.length - 1 → 0 < Lft (ux P) (uy P) (dx P) (dy P) i j := by
  unfold convB
  rw [all_range]
  constructor
  · intro h i hi j hj1 hj2
    have h' := all_range.1 (h i hi)
    rcases Nat.lt_or_ge j P.length with hj | hj
    · have := h' j hj
      unfold cvOk at this
      rw [decide_eq_false (show ¬ j = i by omega), decide_eq_false (show ¬ j = (i + 1) % P.length by rw [Nat.mod_eq_of_lt (by omega)]; omega), Bool.or_self, Bool.false_or, decide_eq_true_eq, trn_lft hs (by omega)] at this
      exact this
    · have := h' (j - P.length) (by omega)
      unfold cvOk at this
      have hne : ¬ j - P.length = (i + 1) % P.length := by
        rcases Nat.lt_or_ge (i + 1) P.length with h1 | h1
        · rw [Nat.mod_eq_of_lt h1]; omega
        · have : i + 1 = P.length := by omega
          rw [this, Nat.mod_self]; omega
      rw [decide_eq_false (show ¬ j - P.length = i by omega), decide_eq_false hne, Bool.or_self, Bool.false_or, decide_eq_true_eq, trn_lft hs (by omega)] at this
      unfold Lft at this ⊢
      have e1 : ux P (j - P.length) = ux P j := by rw [← (chainP P).pu (j - P.length), show j - P.length + P.length = j by omega]
      have e2 : uy P (j - P.length) = uy P j := by rw [← (chainP P).pv (j - P.length), show j - P.length + P.length = j by omega]
      rw [e1, e2] at this
      exact this
  · intro h i hi
    rw [all_range]
    intro k hk
    unfold cvOk
    by_cases h1 : k = i
    · simp [h1]
    by_cases h2 : k = (i + 1) % P.length
    · simp [h2]
    rw [decide_eq_false h1, decide_eq_false h2, Bool.or_self, Bool.false_or, decide_eq_true_eq, trn_lft hs (by omega)]
    rcases Nat.lt_or_ge i k with hik | hik
    · rw [Nat.mod_eq_of_lt (by omega)] at h2
      exact h i hi k (by omega) (by omega)
    · have hk2 : i + 2 ≤ k + P.length := by
        rcases Nat.lt_or_ge (i + 1) P.length with h3 | h3
        · omega
        · have : i + 1 = P.length := by omega
          rw [this, Nat.mod_self] at h2; omega
      have := h i hi (k + P.length) hk2 (by omega)
      unfold Lft at this ⊢
      rw [(chainP P).pu, (chainP P).pv] at this
      exact this

theorem spec_iff (hs : P.any nsm = false) (hn : 3 ≤ P.length) : specB P = true ↔ (∀ i, i < P.length → 0 < Lft (ux P) (uy P) (dx P) (dy P) i (i + 2)) ∧ cntB (flipS P) P.length = 1 := by
  unfold specB
  rw [Bool.and_eq_true, all_range, decide_eq_true_eq]
  refine and_congr (forall_congr' fun i => forall_congr' fun hi => ?_) Iff.rfl
  have h1 := pn_small hs (by omega) i; have h2 := pn_small hs (by omega) (i + 1); have h3 := pn_small hs (by omega) (i + 2)
  unfold okS
  rw [smallF_iff.2 h1, isPtF_iff.2 (by omega), isPtF_iff.2 (by omega), trn_lft hs (by omega)]
  simp

theorem poly_same (P : List (Int × Int)) : polyI P = polyS P := by
  unfold polyI polyS
  cases hin : inF P.length 3 12 with
  | false => rfl
  | true =>
    have hn : 3 ≤ P.length := by
      unfold inF at hin
      simp only [Bool.and_eq_true, decide_eq_true_eq] at hin
      omega
    rw [Bool.true_and, Bool.true_and]
    cases hs : P.any nsm with
    | true =>
      rw [Bool.not_true, Bool.false_and]
      symm
      obtain ⟨p, hp, hq⟩ := List.any_eq_true.1 hs
      obtain ⟨i, hi, rfl⟩ := List.getElem_of_mem hp
      rw [Bool.eq_false_iff]
      intro h
      unfold specB at h
      rw [Bool.and_eq_true, all_range] at h
      have := h.1 i hi
      unfold okS at this
      have e : pn P i = P[i] := by unfold pn; rw [Nat.mod_eq_of_lt hi]; simp [List.getD, hi]
      rw [e] at this
      unfold nsm at hq
      simp only [Bool.and_eq_true] at this
      rw [this.1.1.1] at hq
      cases hq
    | false =>
      rw [Bool.not_false, Bool.true_and, Bool.eq_iff_iff, conv_iff hs hn, spec_iff hs hn]
      exact (once_iff (chainP P) hn fun i hi => flip_iff hs (by omega) i).symm

theorem poly_in {P : List (Int × Int)} (h3 : 3 ≤ P.length) (h12 : P.length ≤ 12) : polyI P = specB P := by
  rw [poly_same]
  unfold polyS
  rw [show inF P.length 3 12 = true by unfold inF; simp only [Bool.and_eq_true, decide_eq_true_eq]; omega, Bool.true_and]
theorem poly_some {P : List (Int × Int)} (h3 : 3 ≤ P.length) (h12 : P.length ≤ 12) (h : P.any nsm = true) : false = specB P := by
  rw [← poly_in h3 h12]
  unfold polyI
  rw [h]; simp
theorem poly_all {P : List (Int × Int)} (h3 : 3 ≤ P.length) (h12 : P.length ≤ 12) (h : P.any nsm = false) : convB P = specB P := by
  rw [← poly_in h3 h12]
  unfold polyI
  rw [h, show inF P.length 3 12 = true by unfold inF; simp only [Bool.and_eq_true, decide_eq_true_eq]; omega]; rfl
theorem in_mid {n : Nat} (h3 : 3 ≤ n) (h12 : n ≤ 12) : inF n 3 12 = true := by unfold inF; simp only [Bool.and_eq_true, decide_eq_true_eq]; omega
theorem in_low {n : Nat} (h : n < 3) : inF n 3 12 = false := by unfold inF; rw [decide_eq_false (by omega)]; rfl
theorem in_high {n : Nat} (h : 12 < n) : inF n 3 12 = false := by unfold inF; rw [decide_eq_false (show ¬ (n : Int) ≤ 12 by omega)]; simp

theorem sz_ok {n : Nat} (h : n ≤ 1048576) : decide (selF (decide (w64 (1048576 - (n : Int)) < 0)) (-1) (w64 (1048576 - (n : Int))) < 0) = false := by
  rw [w64_in (by omega) (by omega), decide_eq_false (show ¬ (1048576 - (n : Int) < 0) by omega)]
  exact decide_eq_false (by simp only [selF]; omega)
theorem sz_big {n : Nat} (h : ¬ n ≤ 1048576) (hm : n ≤ 9223372036854775807) : decide (selF (decide (w64 (1048576 - (n : Int)) < 0)) (-1) (w64 (1048576 - (n : Int))) < 0) = true := by
  rw [w64_in (by omega) (by omega), decide_eq_true (show 1048576 - (n : Int) < 0 by omega)]; rfl

/-! ## Loops -/

theorem mod_at {n : Nat} {i k : Int} (h : 0 ≤ i) (hk : 0 ≤ k) (hn : 0 < n) : 0 ≤ (i + k).tmod n ∧ (i + k).tmod n < (n : Int) ∧ ((i + k).tmod n).toNat = (i.toNat + k.toNat) % n := by
  have e : (i + k).tmod n = (i + k) % n := Int.tmod_eq_emod_of_nonneg (by omega)
  rw [e]
  have h1 := Int.emod_nonneg (i + k) (show (n : Int) ≠ 0 by omega)
  have h2 := Int.emod_lt_of_pos (i + k) (show (0 : Int) < n by omega)
  refine ⟨h1, h2, ?_⟩
  have : (i + k) % n = (((i.toNat + k.toNat) % n : Nat) : Int) := by
    rw [Int.natCast_emod, Int.natCast_add, Int.toNat_of_nonneg h, Int.toNat_of_nonneg hk]
  rw [this]; exact Int.toNat_natCast _

theorem modw {n : Nat} {i : Int} (k : Int) (h : 0 ≤ i) (h2 : i < (n : Int)) (hn : n ≤ 12) (hk : 0 ≤ k) (hk2 : k ≤ 2) : 0 ≤ (w64 (i + k)).tmod n ∧ (w64 (i + k)).tmod n < (n : Int) ∧ ((w64 (i + k)).tmod n).toNat = (i.toNat + k.toNat) % n := by
  rw [w64_in (by omega) (by omega)]
  exact mod_at h hk (by omega)
theorem take_pn {P : List (Int × Int)} {sp : List Value} {off m : Nat} (ho : off = (m % P.length) * 2) (hn : 0 < P.length) : List.take 2 (List.drop off (pl P ++ sp)) = [iv (pn P m).1, iv (pn P m).2] :=
  take_pt ho (Nat.mod_lt _ hn)
theorem off_self {n : Nat} {i : Int} (h1 : 0 ≤ i) (h2 : i < (n : Int)) : 0 + i.toNat * 2 = (i.toNat % n) * 2 := by
  rw [Nat.mod_eq_of_lt (by omega), Nat.zero_add]
theorem off_mod {n : Nat} {i k : Int} (h1 : 0 ≤ i) (h2 : i < (n : Int)) (hn : n ≤ 12) (hk : 0 ≤ k) (hk2 : k ≤ 2) : 0 + ((w64 (i + k)).tmod (n : Int)).toNat * 2 = ((i.toNat + k.toNat) % n) * 2 := by
  rw [(modw k h1 h2 hn hk hk2).2.2, Nat.zero_add]

theorem cvA {P : List (Int × Int)} {i k : Int} (h : decide (k = i) = true) : cvOk P i.toNat k.toNat = true := by
  have := of_decide_eq_true h
  subst this
  unfold cvOk; simp
theorem cvB {P : List (Int × Int)} {i k : Int} (h0 : 0 ≤ i) (h2 : i < (P.length : Int)) (hn : P.length ≤ 12) (h : decide (k = (w64 (i + 1)).tmod (P.length : Int)) = true) : cvOk P i.toNat k.toNat = true := by
  have := of_decide_eq_true h
  subst this
  unfold cvOk
  rw [(modw 1 h0 h2 hn (by omega) (by omega)).2.2]
  simp
theorem cvC {P : List (Int × Int)} {i k : Int} (h : decide (trnF (pn P i.toNat).1 (pn P i.toNat).2 (pn P (i.toNat + 1)).1 (pn P (i.toNat + 1)).2 (pn P k.toNat).1 (pn P k.toNat).2 ≤ 0) = false) : cvOk P i.toNat k.toNat = true := by
  have := of_decide_eq_false h
  unfold cvOk
  rw [decide_eq_true (show 0 < trnP P i.toNat (i.toNat + 1) k.toNat by unfold trnP; omega)]
  simp
theorem cvD {P : List (Int × Int)} {i k : Int} (h0 : 0 ≤ i) (h2 : i < (P.length : Int)) (hn : P.length ≤ 12) (hk : 0 ≤ k) (ha : decide (k = i) = false) (hb : decide (k = (w64 (i + 1)).tmod (P.length : Int)) = false)
    (h : decide (trnF (pn P i.toNat).1 (pn P i.toNat).2 (pn P (i.toNat + 1)).1 (pn P (i.toNat + 1)).2 (pn P k.toNat).1 (pn P k.toNat).2 ≤ 0) = true) : cvOk P i.toNat k.toNat = false := by
  have h3 := of_decide_eq_false ha; have h4 := of_decide_eq_false hb; have h5 := of_decide_eq_true h
  have e := modw 1 h0 h2 hn (by omega) (by omega)
  unfold cvOk
  rw [decide_eq_false (show ¬ k.toNat = i.toNat by omega), decide_eq_false (show ¬ k.toNat = (i.toNat + 1) % P.length from fun hh => h4 (by have e2 := e.2.2; simp only [Int.toNat_one] at e2; rw [← hh] at e2; omega)),
    decide_eq_false (show ¬ 0 < trnP P i.toNat (i.toNat + 1) k.toNat by unfold trnP; omega)]
  rfl

section
variable {P : List (Int × Int)} {i : Nat}
theorem okT (h1 : inF (pn P i).1 (-1000) 1000 = true) (h2 : inF (pn P i).2 (-1000) 1000 = true) (h3 : isPtF (pn P (i + 1)).1 (pn P (i + 1)).2 = true) (h4 : isPtF (pn P (i + 2)).1 (pn P (i + 2)).2 = true)
    (h5 : decide (trnF (pn P i).1 (pn P i).2 (pn P (i + 1)).1 (pn P (i + 1)).2 (pn P (i + 2)).1 (pn P (i + 2)).2 ≤ 0) = false) : okS P i = true := by
  have := of_decide_eq_false h5
  unfold okS smallF
  rw [h1, h2, h3, h4, decide_eq_true (show 0 < trnP P i (i + 1) (i + 2) by unfold trnP; omega)]
  rfl
theorem okF1 (h1 : inF (pn P i).1 (-1000) 1000 = false) : okS P i = false := by unfold okS smallF; rw [h1]; simp
theorem okF2 (h1 : inF (pn P i).2 (-1000) 1000 = false) : okS P i = false := by unfold okS smallF; rw [h1]; simp
theorem okF3 (h1 : isPtF (pn P (i + 1)).1 (pn P (i + 1)).2 = false) : okS P i = false := by unfold okS; rw [h1]; simp
theorem okF4 (h1 : isPtF (pn P (i + 2)).1 (pn P (i + 2)).2 = false) : okS P i = false := by unfold okS; rw [h1]; simp
theorem okF5 (h5 : decide (trnF (pn P i).1 (pn P i).2 (pn P (i + 1)).1 (pn P (i + 1)).2 (pn P (i + 2)).1 (pn P (i + 2)).2 ≤ 0) = true) : okS P i = false := by
  have := of_decide_eq_true h5
  unfold okS
  rw [decide_eq_false (show ¬ 0 < trnP P i (i + 1) (i + 2) by unfold trnP; omega)]; simp
theorem flT (h1 : decide (halfF (plusF (pn P (i + 1)).1 (-1) (pn P i).1) (plusF (pn P (i + 1)).2 (-1) (pn P i).2) = 1) = true)
    (h2 : decide (halfF (plusF (pn P (i + 2)).1 (-1) (pn P (i + 1)).1) (plusF (pn P (i + 2)).2 (-1) (pn P (i + 1)).2) = 0) = true) : flipS P i = true := by unfold flipS; rw [h1, h2]; rfl
theorem flF1 (h1 : decide (halfF (plusF (pn P (i + 1)).1 (-1) (pn P i).1) (plusF (pn P (i + 1)).2 (-1) (pn P i).2) = 1) = false) : flipS P i = false := by unfold flipS; rw [h1]; rfl
theorem flF2 (h2 : decide (halfF (plusF (pn P (i + 2)).1 (-1) (pn P (i + 1)).1) (plusF (pn P (i + 2)).2 (-1) (pn P (i + 1)).2) = 0) = false) : flipS P i = false := by unfold flipS; rw [h2]; simp
end

structure CvO (P : List (Int × Int)) (i : Int) : Prop where
  lo : 0 ≤ i
  hi : i ≤ (P.length : Int)
  ok : ∀ j, j < i.toNat → ∀ k, k < P.length → cvOk P j k = true
structure CvI (P : List (Int × Int)) (i k : Int) : Prop where
  lo : 0 ≤ k
  hi : k ≤ (P.length : Int)
  ok : ∀ j, j < k.toNat → cvOk P i.toNat j = true
theorem CvO.start (P : List (Int × Int)) : CvO P 0 := ⟨by omega, by omega, fun j hj => by simp at hj⟩
theorem CvI.start (P : List (Int × Int)) (i : Int) : CvI P i 0 := ⟨by omega, by omega, fun j hj => by simp at hj⟩
theorem CvI.next {P : List (Int × Int)} {i k : Int} (h : CvI P i k) (hk : k < (P.length : Int)) (hl : P.length ≤ 12) (ho : cvOk P i.toNat k.toNat = true) : CvI P i (w64 (k + 1)) := by
  have h0 := h.lo
  rw [w64_in (by omega) (by omega)]
  refine ⟨by omega, by omega, fun j hj => ?_⟩
  rcases Nat.lt_or_ge j k.toNat with h1 | h1
  · exact h.ok j h1
  · have : j = k.toNat := by omega
    subst this; exact ho
theorem CvO.next {P : List (Int × Int)} {i k : Int} (h : CvO P i) (hI : CvI P i k) (hi : i < (P.length : Int)) (hl : P.length ≤ 12) (hk : ¬ k < (P.length : Int)) : CvO P (w64 (i + 1)) := by
  have h0 := h.lo; have h1 := hI.hi
  rw [w64_in (by omega) (by omega)]
  refine ⟨by omega, by omega, fun j hj => ?_⟩
  rcases Nat.lt_or_ge j i.toNat with h2 | h2
  · exact h.ok j h2
  · have : j = i.toNat := by omega
    subst this
    exact fun k' hk' => hI.ok k' (by omega)
theorem CvO.fin {P : List (Int × Int)} {i : Int} (h : CvO P i) (hi : ¬ i < (P.length : Int)) : true = convB P := by
  have h0 := h.lo; have h1 := h.hi
  symm
  unfold convB
  exact all_range.2 fun j hj => all_range.2 fun k hk => h.ok j (by omega) k hk
theorem CvI.stop {P : List (Int × Int)} {i k : Int} (hi : i < (P.length : Int)) (h1 : 0 ≤ i) (hI : CvI P i k) (hk : k < (P.length : Int)) (ho : cvOk P i.toNat k.toNat = false) : false = convB P := by
  have h0 := hI.lo
  symm
  rw [Bool.eq_false_iff]
  intro h
  unfold convB at h
  rw [all_range] at h
  have := all_range.1 (h i.toNat (by omega)) k.toNat (by omega)
  rw [ho] at this; cases this

structure SpI (P : List (Int × Int)) (i q : Int) : Prop where
  lo : 0 ≤ i
  hi : i ≤ (P.length : Int)
  ok : ∀ j, j < i.toNat → okS P j = true
  num : q = (cntB (flipS P) i.toNat : Int)
  le : q ≤ i
theorem SpI.start (P : List (Int × Int)) : SpI P 0 0 := ⟨by omega, by omega, fun j hj => by simp at hj, rfl, by omega⟩
theorem SpI.skip {P : List (Int × Int)} {i q : Int} (h : SpI P i q) (hi : i < (P.length : Int)) (hl : P.length ≤ 12) (ho : okS P i.toNat = true) (hf : flipS P i.toNat = false) : SpI P (w64 (i + 1)) q := by
  have h0 := h.lo; have h1 := h.num; have h2 := h.le
  rw [w64_in (by omega) (by omega)]
  refine ⟨by omega, by omega, fun j hj => ?_, ?_, by omega⟩
  · rcases Nat.lt_or_ge j i.toNat with h3 | h3
    · exact h.ok j h3
    · have : j = i.toNat := by omega
      subst this; exact ho
  · rw [show (i + 1).toNat = i.toNat + 1 by omega, cntB, hf]; simp; exact h1
theorem SpI.flip {P : List (Int × Int)} {i q : Int} (h : SpI P i q) (hi : i < (P.length : Int)) (hl : P.length ≤ 12) (ho : okS P i.toNat = true) (hf : flipS P i.toNat = true) : SpI P (w64 (i + 1)) (w64 (q + 1)) := by
  have h0 := h.lo; have h1 := h.num; have h2 := h.le
  rw [w64_in (n := i + 1) (by omega) (by omega), w64_in (n := q + 1) (by omega) (by omega)]
  refine ⟨by omega, by omega, fun j hj => ?_, ?_, by omega⟩
  · rcases Nat.lt_or_ge j i.toNat with h3 | h3
    · exact h.ok j h3
    · have : j = i.toNat := by omega
      subst this; exact ho
  · rw [show (i + 1).toNat = i.toNat + 1 by omega, cntB, hf]; simp; omega
theorem SpI.fin {P : List (Int × Int)} {i q : Int} (h : SpI P i q) (hi : ¬ i < (P.length : Int)) : decide (q = 1) = specB P := by
  have h0 := h.lo; have h1 := h.hi; have h2 := h.num
  have e : i.toNat = P.length := by omega
  rw [e] at h2
  unfold specB
  rw [all_range.2 fun j hj => h.ok j (by omega), Bool.true_and, h2]
  congr 1
  apply propext
  omega
theorem SpI.stop {P : List (Int × Int)} {i q : Int} (h : SpI P i q) (hi : i < (P.length : Int)) (ho : okS P i.toNat = false) : false = specB P := by
  have h0 := h.lo
  symm
  rw [Bool.eq_false_iff]
  intro hh
  unfold specB at hh
  rw [Bool.and_eq_true, all_range] at hh
  have := hh.1 i.toNat (by omega)
  rw [ho] at this; cases this

/-! ## The first point with a property -/

def idxQ (p : Int × Int → Bool) : List (Int × Int) → Int → Int
  | [], _ => -1
  | x :: xs, k => if p x = true then k else idxQ p xs (k + 1)
theorem idxQ_ge (p : Int × Int → Bool) : ∀ (xs : List (Int × Int)) (k : Int), 0 ≤ k → decide (idxQ p xs k ≥ 0) = xs.any p
  | [], k, hk => by simp [idxQ]
  | x :: xs, k, hk => by
    rw [idxQ, List.any_cons]
    cases h : p x
    · simp only [Bool.false_eq_true, if_false, Bool.false_or]
      exact idxQ_ge p xs (k + 1) (by omega)
    · simp only [if_true, Bool.true_or, decide_eq_true_eq]; omega
structure FirQ (p : Int × Int → Bool) (xs : List (Int × Int)) (i : Int) : Prop where
  lo : 0 ≤ i
  hi : i ≤ (xs.length : Int)
  eq : idxQ p (xs.drop i.toNat) i = idxQ p xs 0
theorem FirQ.start (p : Int × Int → Bool) (xs : List (Int × Int)) : FirQ p xs 0 := ⟨by omega, by omega, rfl⟩
theorem FirQ.hit {p : Int × Int → Bool} {xs : List (Int × Int)} {i : Int} (h : FirQ p xs i) (hi : i < (xs.length : Int)) (hp : p (xs.getD i.toNat (0, 0)) = true) : idxQ p xs 0 = i := by
  have h0 := h.lo
  rw [← h.eq, drop_at (by omega), idxQ, if_pos hp]
theorem FirQ.next {p : Int × Int → Bool} {xs : List (Int × Int)} {i : Int} (h : FirQ p xs i) (hi : i < (xs.length : Int)) (hl : xs.length ≤ 1048576) (hp : p (xs.getD i.toNat (0, 0)) = false) : FirQ p xs (w64 (i + 1)) := by
  have h0 := h.lo
  rw [w64_in (by omega) (by omega)]
  refine ⟨by omega, by omega, ?_⟩
  rw [← h.eq, drop_at (k := i.toNat) (by omega), idxQ, hp, show (i + 1).toNat = i.toNat + 1 by omega]
  rfl
theorem FirQ.fin {p : Int × Int → Bool} {xs : List (Int × Int)} {i : Int} (h : FirQ p xs i) (hi : ¬ i < (xs.length : Int)) : idxQ p xs 0 = -1 := by
  have h0 := h.hi
  rw [← h.eq, List.drop_eq_nil_of_le (by omega)]
  rfl
theorem FirQ.mu {p : Int × Int → Bool} {xs : List (Int × Int)} {i : Int} (h : FirQ p xs i) (hi : i < (xs.length : Int)) (hl : xs.length ≤ 1048576) : ((xs.length : Int) - w64 (i + 1)).toNat < ((xs.length : Int) - i).toNat := by
  have h0 := h.lo
  rw [w64_in (by omega) (by omega)]; omega
end

/-! ## Copies of lists of points -/

theorem zeros_pl : ∀ (n : Nat), zeros n [iv 0, iv 0] = pl (List.replicate n (0, 0))
  | 0 => rfl
  | n + 1 => by
    rw [zeros, zeros_pl n, List.replicate_succ', pl_snoc]
theorem pl_row (ps : List (Int × Int)) : Row (pl ps) [] ps.length ps.length 2 := ⟨pl_len ps, by rw [pl_len]; simp, pl_plain _, Plain.nil⟩
theorem take_away_pl {ps : List (Int × Int)} {sp : List Value} {off o i : Nat} (ho : o = off + i * 2) (hi : i < ps.length) :
    List.take 2 (List.drop o (away off (pl ps ++ sp))) = [iv (ps.getD i (0, 0)).1, iv (ps.getD i (0, 0)).2] := by
  subst ho
  rw [take_away]
  exact take_pt rfl hi
theorem splice_cons2 (a b : Value) (l : List Value) (o : Nat) (vs : List Value) : splice (a :: b :: l) (o + 1 + 1) vs = a :: b :: splice l o vs := by
  unfold splice
  rw [show o + 1 + 1 + vs.length = o + vs.length + 1 + 1 by omega]
  rfl
theorem pl_set : ∀ (ps : List (Int × Int)) (i : Nat) (v : Int × Int) (sp : List Value), i < ps.length → splice (pl ps ++ sp) (i * 2) [iv v.1, iv v.2] = pl (ps.set i v) ++ sp
  | [], i, v, sp, h => by simp at h
  | p :: ps, 0, v, sp, h => rfl
  | p :: ps, i + 1, v, sp, h => by
    have ih := pl_set ps i v sp (by simpa using h)
    rw [pl_cons, List.set_cons_succ, pl_cons]
    show splice (iv p.1 :: iv p.2 :: (pl ps ++ sp)) ((i + 1) * 2) _ = _
    rw [show (i + 1) * 2 = i * 2 + 1 + 1 by omega, splice_cons2, ih]; rfl
theorem set_pl {off i : Nat} {ps qs : List (Int × Int)} {sp : List Value} {v w : Int} {k : List Value → Prop} (ho : off = i * 2) (h : i < ps.length) (hy : ps.set i (v, w) = qs) (hk : k (pl qs ++ sp)) : forceL (splice (pl ps ++ sp) off [iv v, iv w]) k := by
  subst ho
  rw [forceL_eq, pl_set ps i (v, w) sp h, hy]
  exact hk

structure CpyQ (xs : List (Int × Int)) (i : Int) (C : List (Int × Int)) : Prop where
  lo : 0 ≤ i
  hi : i ≤ (xs.length : Int)
  len : C.length = xs.length
  eq : C = xs.take i.toNat ++ List.replicate (xs.length - i.toNat) (0, 0)
theorem CpyQ.start (xs : List (Int × Int)) : CpyQ xs 0 (List.replicate xs.length (0, 0)) := ⟨by omega, by omega, by simp, by simp⟩
theorem CpyQ.next {xs C : List (Int × Int)} {i : Int} (h : CpyQ xs i C) (hi : i < (xs.length : Int)) (hl : xs.length ≤ 1048576) {o : Nat} (ho : o = i.toNat) {v : Int × Int} (hv : v = xs.getD i.toNat (0, 0)) : CpyQ xs (w64 (i + 1)) (C.set o v) := by
  subst ho hv
  have h0 := h.lo
  rw [w64_in (by omega) (by omega)]
  refine ⟨by omega, by omega, by rw [List.length_set]; exact h.len, ?_⟩
  rw [h.eq, show (i + 1).toNat = i.toNat + 1 by omega, take_succ_getD (d := (0, 0)) (by omega), List.append_assoc]
  rw [List.set_append_right _ _ (by rw [List.length_take]; omega), List.length_take]
  congr 1
  rw [show i.toNat - min i.toNat xs.length = 0 by omega, show xs.length - i.toNat = (xs.length - (i.toNat + 1)) + 1 by omega, List.replicate_succ]
  rfl
theorem CpyQ.fin {xs C : List (Int × Int)} {i : Int} (h : CpyQ xs i C) (hi : ¬ i < (xs.length : Int)) : C = xs := by
  have h1 := h.hi; have h0 := h.lo
  rw [h.eq, show i.toNat = xs.length by omega]
  simp

end Go.Ev
