/-
  The fraction of a path: two letters, two ends that come together. The plain law.
  Conditions: none.
-/
import Derived.Test.YtnjepaboecijcaaDoorSpot
import Derived.Lib.SlTrimSet
set_option linter.unusedVariables false
set_option linter.unusedSimpArgs false
namespace Go.Ev

/-- strings.Trim leaves nothing just where every byte is in the cutset. -/
theorem dropWhile_nil {α : Type} {p : α → Bool} : ∀ (l : List α), l.dropWhile p = [] ↔ ∀ x ∈ l, p x = true
  | [] => by simp
  | x :: l => by
    simp only [List.dropWhile]
    split
    · rename_i h
      rw [dropWhile_nil l]
      constructor
      · intro g y hy
        rcases List.mem_cons.1 hy with rfl | hy
        · exact h
        · exact g y hy
      · exact fun g y hy => g y (List.mem_cons_of_mem _ hy)
    · rename_i h
      constructor
      · intro g; cases g
      · intro g; rw [g x List.mem_cons_self] at h; cases h
theorem dropWhile_sub {α : Type} {p : α → Bool} : ∀ (l : List α) (x : α), x ∈ l → p x = false → x ∈ l.dropWhile p
  | y :: l, x, hx, hp => by
    simp only [List.dropWhile]
    split
    · rename_i h
      rcases List.mem_cons.1 hx with rfl | hx
      · rw [hp] at h; cases h
      · exact dropWhile_sub l x hx hp
    · exact hx
theorem trimS_nil (l cs : List UInt8) : Lib.trimS l cs = [] ↔ ∀ x ∈ l, cs.contains x = true := by
  unfold Lib.trimS Lib.trimLeftS Lib.trimRightS
  rw [dropWhile_nil]
  constructor
  · intro h x hx
    cases hc : cs.contains x with
    | true => rfl
    | false =>
      have := dropWhile_sub (p := (cs.contains ·)) l.reverse x (by simpa using hx) hc
      have := h x (by simpa using this)
      rw [hc] at this; cases this
  · intro h x hx
    have h2 : x ∈ l.reverse.dropWhile (cs.contains ·) := by simpa using hx
    exact h x (by simpa using (List.dropWhile_suffix _).subset h2)

/-! ### The two ends -/
abbrev E4 := Int × Int × Int × Int
/-- A letter: L moves the right end. -/
def pst (s : E4) (b : UInt8) : E4 := match s with
  | (l0, l1, r0, r1) => if b = 76 then (l0, l1, l0 + r0, l1 + r1) else (l0 + r0, l1 + r1, r0, r1)
def prun (bs : List UInt8) : E4 := bs.foldl pst (0, 1, 1, 0)
def pX (bs : List UInt8) : Int := (prun bs).1 + (prun bs).2.2.1
def pY (bs : List UInt8) : Int := (prun bs).2.1 + (prun bs).2.2.2
structure PBd (m : Int) (s : E4) : Prop where
  a : 0 ≤ s.1 ∧ s.1 ≤ m
  b : 0 ≤ s.2.1 ∧ s.2.1 ≤ m
  c : 0 ≤ s.2.2.1 ∧ s.2.2.1 ≤ m
  d : 0 ≤ s.2.2.2 ∧ s.2.2.2 ≤ m
theorem PBd.step {m : Int} {s : E4} (h : PBd m s) (b : UInt8) : PBd (2 * m) (pst s b) := by
  obtain ⟨l0, l1, r0, r1⟩ := s
  obtain ⟨h1, h2, h3, h4⟩ := h
  simp only at h1 h2 h3 h4
  by_cases hb : b = 76
  · have e : pst (l0, l1, r0, r1) b = (l0, l1, l0 + r0, l1 + r1) := if_pos hb
    rw [e]
    exact ⟨by show 0 ≤ l0 ∧ l0 ≤ _; omega, by show 0 ≤ l1 ∧ l1 ≤ _; omega, by show 0 ≤ l0 + r0 ∧ l0 + r0 ≤ _; omega, by show 0 ≤ l1 + r1 ∧ l1 + r1 ≤ _; omega⟩
  · have e : pst (l0, l1, r0, r1) b = (l0 + r0, l1 + r1, r0, r1) := if_neg hb
    rw [e]
    exact ⟨by show 0 ≤ l0 + r0 ∧ l0 + r0 ≤ _; omega, by show 0 ≤ l1 + r1 ∧ l1 + r1 ≤ _; omega, by show 0 ≤ r0 ∧ r0 ≤ _; omega, by show 0 ≤ r1 ∧ r1 ≤ _; omega⟩
theorem prun_nil {m : Int} (h : 1 ≤ m) : PBd m (prun []) := by
  exact ⟨by show (0 : Int) ≤ 0 ∧ (0 : Int) ≤ m; omega, by show (0 : Int) ≤ 1 ∧ (1 : Int) ≤ m; omega, by show (0 : Int) ≤ 1 ∧ (1 : Int) ≤ m; omega, by show (0 : Int) ≤ 0 ∧ (0 : Int) ≤ m; omega⟩
theorem prun_snoc (cs : List UInt8) (b : UInt8) : prun (cs ++ [b]) = pst (prun cs) b := by
  unfold prun
  rw [List.foldl_append]
  rfl
theorem prun_bd : ∀ (n : Nat) (bs : List UInt8), bs.length ≤ n → PBd ((2 ^ n : Nat) : Int) (prun bs)
  | 0, bs, h => by
    have : bs = [] := List.eq_nil_of_length_eq_zero (by omega)
    subst this
    exact prun_nil (by simp)
  | n + 1, bs, h => by
    have h2 := Nat.two_pow_pos n
    have e2 : ((2 ^ (n + 1) : Nat) : Int) = 2 * ((2 ^ n : Nat) : Int) := by rw [Nat.pow_succ]; omega
    rcases List.eq_nil_or_concat bs with rfl | ⟨cs, b, rfl⟩
    · exact prun_nil (by omega)
    · have h1 := (prun_bd n cs (by simp at h; omega)).step b
      rw [List.concat_eq_append, prun_snoc, e2]; exact h1
theorem prun_60 {bs : List UInt8} (h : bs.length ≤ 60) : PBd 1152921504606846976 (prun bs) := prun_bd 60 bs h

/-- Behind i letters. -/
structure PI (bs : List UInt8) (i : Int) (l0 l1 r0 r1 : Int) : Prop where
  i0 : 0 ≤ i
  i1 : i ≤ bs.length
  eq : prun (bs.take i.toNat) = (l0, l1, r0, r1)
theorem take_snoc {bs : List UInt8} {i : Nat} (h : i < bs.length) : bs.take (i + 1) = bs.take i ++ [bs.getD i 0] := by
  rw [List.take_add_one, List.getElem?_eq_getElem h]
  simp [List.getD, h]
section
variable {bs : List UInt8} {i l0 l1 r0 r1 : Int}
theorem PI.start : PI bs 0 0 1 1 0 := ⟨Int.le_refl _, Int.natCast_nonneg _, rfl⟩
theorem PI.bd (h : PI bs i l0 l1 r0 r1) (hl : bs.length ≤ 60) : (0 ≤ l0 ∧ l0 ≤ 1152921504606846976) ∧ (0 ≤ l1 ∧ l1 ≤ 1152921504606846976) ∧ (0 ≤ r0 ∧ r0 ≤ 1152921504606846976) ∧ 0 ≤ r1 ∧ r1 ≤ 1152921504606846976 := by
  have := prun_60 (bs := bs.take i.toNat) (by simp; omega)
  rw [h.eq] at this
  exact ⟨this.a, this.b, this.c, this.d⟩
theorem PI.sum (h : PI bs i l0 l1 r0 r1) (hl : bs.length ≤ 60) : plusF l0 1 r0 = l0 + r0 ∧ plusF l1 1 r1 = l1 + r1 := by
  have := h.bd hl
  unfold plusF
  rw [w64_in (n := 1 * r0) (by omega) (by omega), w64_in (n := 1 * r1) (by omega) (by omega), w64_in (by omega) (by omega), w64_in (by omega) (by omega)]
  omega
theorem PI.next (h : PI bs i l0 l1 r0 r1) (hi : i < bs.length) : prun (bs.take (i + 1).toNat) = pst (l0, l1, r0, r1) (bs.getD i.toNat 0) := by
  have := h.i0
  rw [show (i + 1).toNat = i.toNat + 1 by omega, take_snoc (by omega), prun, List.foldl_append, ← prun, h.eq]
  rfl
theorem PI.left (h : PI bs i l0 l1 r0 r1) (hl : bs.length ≤ 60) (hi : i < bs.length) (hb : bs.getD i.toNat 0 = 76) : PI bs (w64 (i + 1)) l0 l1 (plusF l0 1 r0) (plusF l1 1 r1) := by
  have h0 := h.i0
  rw [w64_in (by omega) (by omega), (h.sum hl).1, (h.sum hl).2]
  refine ⟨by omega, by omega, ?_⟩
  rw [h.next hi]; exact if_pos hb
theorem PI.right (h : PI bs i l0 l1 r0 r1) (hl : bs.length ≤ 60) (hi : i < bs.length) (hb : bs.getD i.toNat 0 ≠ 76) : PI bs (w64 (i + 1)) (plusF l0 1 r0) (plusF l1 1 r1) r0 r1 := by
  have h0 := h.i0
  rw [w64_in (by omega) (by omega), (h.sum hl).1, (h.sum hl).2]
  refine ⟨by omega, by omega, ?_⟩
  rw [h.next hi]; exact if_neg hb
theorem PI.mu (h : PI bs i l0 l1 r0 r1) (hl : bs.length ≤ 60) (hi : i < bs.length) : ((bs.length : Int) - w64 (i + 1)).toNat < ((bs.length : Int) - i).toNat := by
  have h0 := h.i0
  rw [w64_in (by omega) (by omega)]; omega
theorem PI.fin (h : PI bs i l0 l1 r0 r1) (hl : bs.length ≤ 60) (hi : ¬ i < bs.length) : plusF l0 1 r0 = pX bs ∧ plusF l1 1 r1 = pY bs := by
  have h0 := h.i0
  have h1 := h.i1
  have e := h.eq
  rw [List.take_of_length_le (by omega)] at e
  rw [(h.sum hl).1, (h.sum hl).2]
  unfold pX pY
  rw [e]
  exact ⟨rfl, rfl⟩
/-- The ends grow. -/
theorem pst_grow {m : Int} {s : E4} (h : PBd m s) (b : UInt8) : s.1 + s.2.2.1 ≤ (pst s b).1 + (pst s b).2.2.1 ∧ s.2.1 + s.2.2.2 ≤ (pst s b).2.1 + (pst s b).2.2.2 := by
  obtain ⟨l0, l1, r0, r1⟩ := s
  obtain ⟨h1, h2, h3, h4⟩ := h
  simp only at h1 h2 h3 h4
  by_cases hb : b = 76
  · have e : pst (l0, l1, r0, r1) b = (l0, l1, l0 + r0, l1 + r1) := if_pos hb
    rw [e]; simp only; omega
  · have e : pst (l0, l1, r0, r1) b = (l0 + r0, l1 + r1, r0, r1) := if_neg hb
    rw [e]; simp only; omega
theorem prun_grow (cs : List UInt8) : ∀ (ds : List UInt8), pX cs ≤ pX (cs ++ ds) ∧ pY cs ≤ pY (cs ++ ds)
  | [] => by simp
  | d :: ds => by
    have h1 := prun_grow (cs ++ [d]) ds
    have h2 := pst_grow (prun_bd cs.length cs (Nat.le_refl _)) d
    have e := prun_snoc cs d
    rw [List.append_assoc, List.singleton_append] at h1
    unfold pX pY at h1 ⊢
    rw [e] at h1
    omega
/-- A sum that is no point: nor is the last one. -/
theorem PI.out (h : PI bs i l0 l1 r0 r1) (hl : bs.length ≤ 60) (hp : isPtF (plusF l0 1 r0) (plusF l1 1 r1) = false) : isPtF (pX bs) (pY bs) = false := by
  rw [(h.sum hl).1, (h.sum hl).2] at hp
  have hb := h.bd hl
  have hg := prun_grow (bs.take i.toNat) (bs.drop i.toNat)
  rw [List.take_append_drop] at hg
  have e1 : pX (bs.take i.toNat) = l0 + r0 := by unfold pX; rw [h.eq]
  have e2 : pY (bs.take i.toNat) = l1 + r1 := by unfold pY; rw [h.eq]
  rw [e1, e2] at hg
  cases hq : isPtF (pX bs) (pY bs) with
  | false => rfl
  | true =>
    have := isPtF_iff.1 hq
    have h3 : isPtF (l0 + r0) (l1 + r1) = true := isPtF_iff.2 (by omega)
    rw [hp] at h3; cases h3
end
end Go.Ev
