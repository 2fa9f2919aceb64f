/-
  Several texts of this work in one (a claim holds at most 60 files).
  Conditions: as each contract states.
-/
import Derived.Lib.ItoaNum
import Derived.Lib.ParseIntBCases
import Derived.Lib.IndexMore
import Derived.Lib.Split
import Derived.Test.YtlkbfpklhncfbaaGreatDoorMath
import Derived.Test.YtlkbfpklhncfbaaGreatDoorEvUse
import Derived.Test.YtlkbfpklhncfbaaGreatDoorKM2
import Derived.Lib.Join
section
/-
  Texts of points: what is read is what was written. The plain law, over byte lists.
  Conditions: none.
-/
set_option linter.unusedVariables false
set_option linter.unusedSimpArgs false
namespace Go.Ev
open Go.Lib

/-! ### Digits -/
abbrev Dig (b : UInt8) : Prop := 48 ≤ b.toNat ∧ b.toNat ≤ 57
theorem dig_of {n : Nat} (h : n < 10) : (UInt8.ofNat (48 + n)).toNat = 48 + n := by
  rw [UInt8.toNat_ofNat']; omega
theorem dec_small {u : Nat} (h : u < 10) : decDigits u = [UInt8.ofNat (48 + u)] := by rw [decDigits, dif_pos h]
theorem dec_big {u : Nat} (h : ¬ u < 10) : decDigits u = decDigits (u / 10) ++ [UInt8.ofNat (48 + u % 10)] := by rw [decDigits, dif_neg h]
theorem dec_dig (u : Nat) : ∀ b ∈ decDigits u, Dig b := by
  induction u using Nat.strongRecOn with
  | _ u ih =>
    intro b hb
    by_cases h : u < 10
    · rw [dec_small h, List.mem_singleton] at hb
      subst hb
      have := dig_of h
      exact ⟨by omega, by omega⟩
    · rw [dec_big h] at hb
      rcases List.mem_append.1 hb with hb | hb
      · exact ih _ (by omega) b hb
      · rw [List.mem_singleton] at hb
        subst hb
        have := dig_of (show u % 10 < 10 by omega)
        exact ⟨by omega, by omega⟩
theorem dec_ne (u : Nat) : decDigits u ≠ [] := by
  by_cases h : u < 10
  · rw [dec_small h]; simp
  · rw [dec_big h]; simp
/-- What digits tell, from the left. -/
def foldD (acc : Nat) : List UInt8 → Nat
  | [] => acc
  | c :: r => foldD (acc * 10 + (c.toNat - 48)) r
theorem foldD_app : ∀ (l m : List UInt8) (acc : Nat), foldD acc (l ++ m) = foldD (foldD acc l) m
  | [], _, _ => rfl
  | c :: l, m, acc => foldD_app l m (acc * 10 + (c.toNat - 48))
theorem foldD_one (acc : Nat) (c : UInt8) : foldD acc [c] = acc * 10 + (c.toNat - 48) := rfl
theorem foldD_dec (u : Nat) : foldD 0 (decDigits u) = u := by
  induction u using Nat.strongRecOn with
  | _ u ih =>
    by_cases h : u < 10
    · rw [dec_small h, foldD_one, dig_of h]
      omega
    · rw [dec_big h, foldD_app, ih (u / 10) (by omega), foldD_one, dig_of (show u % 10 < 10 by omega)]
      omega
/-- Digits with none but a lone zero ahead are the numeral of what they tell. -/
def Canon (l : List UInt8) : Prop := l ≠ [] ∧ (∀ b ∈ l, Dig b) ∧ (2 ≤ l.length → l.head? ≠ some 48)
theorem u8_of {b : UInt8} (h : Dig b) : UInt8.ofNat (48 + (b.toNat - 48)) = b := by
  apply UInt8.toNat_inj.1
  rw [UInt8.toNat_ofNat']
  have := b.toNat_lt
  omega
theorem foldD_ge : ∀ (l : List UInt8) (acc : Nat), acc ≤ foldD acc l
  | [], acc => Nat.le_refl _
  | c :: r, acc => by
    show acc ≤ foldD (acc * 10 + (c.toNat - 48)) r
    have := foldD_ge r (acc * 10 + (c.toNat - 48))
    generalize foldD (acc * 10 + (c.toNat - 48)) r = q at *
    omega
theorem canon_dec : ∀ (n : Nat) (l : List UInt8), l.length = n → Canon l → decDigits (foldD 0 l) = l
  | 0, l, hn, h => absurd (List.length_eq_zero_iff.1 hn) h.1
  | 1, l, hn, h => by
    obtain ⟨b, rfl⟩ := List.length_eq_one_iff.1 hn
    have hb := h.2.1 b (by simp)
    rw [foldD_one, Nat.zero_mul, Nat.zero_add, dec_small (by omega), u8_of hb]
  | n + 2, l, hn, h => by
    have hne := h.1
    obtain ⟨m, b, rfl⟩ : ∃ m b, l = m ++ [b] := ⟨l.dropLast, l.getLast hne, (List.dropLast_concat_getLast hne).symm⟩
    have hm : m.length = n + 1 := by simpa using hn
    have hb := h.2.1 b (by simp)
    have hmne : m ≠ [] := fun e => by rw [e] at hm; simp at hm
    have hh : m.head? ≠ some 48 := by
      have := h.2.2 (by simp; omega)
      cases m with
      | nil => simp at hm
      | cons c m => simpa using this
    have hc : Canon m := ⟨hmne, fun x hx => h.2.1 x (by simp [hx]), fun _ => hh⟩
    have ih := canon_dec (n + 1) m hm hc
    have e : foldD 0 (m ++ [b]) = foldD 0 m * 10 + (b.toNat - 48) := by rw [foldD_app, foldD_one]
    have hpos : 1 ≤ foldD 0 m := by
      cases m with
      | nil => simp at hm
      | cons c m =>
        have hcd := hc.2.1 c (by simp)
        have h48 : c ≠ 48 := fun e => hh (by simp [e])
        have : c.toNat ≠ 48 := fun e => h48 (UInt8.toNat_inj.1 e)
        have := foldD_ge m (0 * 10 + (c.toNat - 48))
        show 1 ≤ foldD (0 * 10 + (c.toNat - 48)) m
        generalize foldD (0 * 10 + (c.toNat - 48)) m = q at *
        omega
    rw [e, dec_big (by omega), show (foldD 0 m * 10 + (b.toNat - 48)) / 10 = foldD 0 m by omega, ih, show (foldD 0 m * 10 + (b.toNat - 48)) % 10 = b.toNat - 48 by omega, u8_of hb]
theorem dec_canon (u : Nat) : Canon (decDigits u) := by
  refine ⟨dec_ne u, dec_dig u, fun hl => ?_⟩
  -- the first digit of a number of two digits or more
  have key : ∀ n u : Nat, u ≤ n → ¬ u < 10 → (decDigits u).head? ≠ some 48 := by
    intro n
    induction n with
    | zero => intro u h1 h2; omega
    | succ n ih =>
      intro u h1 h2
      rw [dec_big h2]
      by_cases h3 : u / 10 < 10
      · rw [dec_small h3]
        intro e
        simp only [List.cons_append, List.head?_cons, Option.some.injEq] at e
        have := congrArg UInt8.toNat e
        rw [dig_of h3] at this
        have h48 : (48 : UInt8).toNat = 48 := rfl
        omega
      · have := ih (u / 10) (by omega) h3
        have hne := dec_ne (u / 10)
        cases hd : decDigits (u / 10) with
        | nil => exact absurd hd hne
        | cons c r => rw [hd] at this; simpa using this
  by_cases h : u < 10
  · rw [dec_small h] at hl; simp at hl
  · exact key u u (Nat.le_refl _) h
theorem canon_iff {l : List UInt8} : Canon l ↔ ∃ u, l = decDigits u := by
  constructor
  · intro h; exact ⟨foldD 0 l, (canon_dec _ l rfl h).symm⟩
  · rintro ⟨u, rfl⟩; exact dec_canon u
theorem dec_inj {u v : Nat} (h : decDigits u = decDigits v) : u = v := by rw [← foldD_dec u, h, foldD_dec]

/-! ### Numerals with a sign -/
theorem itoa_inj {m n : Int} (h : itoa m = itoa n) : m = n := by
  have hd : ∀ u, (decDigits u).head? ≠ some 45 := by
    intro u e
    have hne := dec_ne u
    cases hc : decDigits u with
    | nil => exact absurd hc hne
    | cons c r =>
      rw [hc] at e
      have hcd := dec_dig u c (by rw [hc]; simp)
      simp only [List.head?_cons, Option.some.injEq] at e
      subst e
      have h45 : (45 : UInt8).toNat = 45 := rfl
      omega
  unfold itoa at h
  split at h <;> split at h
  · have := dec_inj (List.cons.inj h).2; omega
  · exact absurd (by rw [← h]; rfl) (hd n.toNat)
  · exact absurd (by rw [h]; rfl) (hd m.toNat)
  · have := dec_inj h; omega
/-- No comma and no semicolon in a numeral. -/
theorem itoa_chars (n : Int) : ∀ b ∈ itoa n, b.toNat = 45 ∨ Dig b := by
  intro b hb
  unfold itoa at hb
  split at hb
  · rcases List.mem_cons.1 hb with rfl | hb
    · exact .inl rfl
    · exact .inr (dec_dig _ b hb)
  · exact .inr (dec_dig _ b hb)
theorem itoa_no {n : Int} {c : UInt8} (hc : c = 44 ∨ c = 59) : c ∉ itoa n := fun hm => by
  have := itoa_chars n c hm
  have h44 : (44 : UInt8).toNat = 44 := rfl
  have h59 : (59 : UInt8).toNat = 59 := rfl
  rcases hc with rfl | rfl <;> omega

/-! ### The library's reading of a numeral -/
theorem parseM_ok : ∀ (l : List UInt8) (acc : Nat), (∀ b ∈ l, Dig b) → foldD acc l ≤ 1000000000 → parseUintM 18446744073709551615 acc l = .ok (foldD acc l)
  | [], acc, _, _ => rfl
  | c :: r, acc, hd, hf => by
    have hc := hd c (by simp)
    have h1 := foldD_ge r (acc * 10 + (c.toNat - 48))
    have hf' : foldD (acc * 10 + (c.toNat - 48)) r ≤ 1000000000 := hf
    unfold parseUintM
    rw [if_pos hc, if_neg (by omega), if_neg (by omega)]
    exact parseM_ok r _ (fun b hb => hd b (by simp [hb])) hf'
theorem parse_itoa {n : Int} (h : -1000000 ≤ n ∧ n ≤ 1000000) : parseIntB 64 (itoa n) = .ok n := by
  have hu : ∀ u : Nat, u ≤ 1000000 → parseUintB 64 (decDigits u) = .ok u := by
    intro u hu
    unfold parseUintB
    rw [if_neg (dec_ne u)]
    have := parseM_ok (decDigits u) 0 (dec_dig u) (by rw [foldD_dec]; omega)
    rw [foldD_dec] at this
    exact this
  unfold itoa
  by_cases hn : n < 0
  · rw [if_pos hn, parseIntB_minus, hu _ (by omega)]
    show signedC _ _ = _
    unfold signedC
    simp only
    rw [if_neg (by omega)]
    congr 1; omega
  · rw [if_neg hn]
    have hne := dec_ne n.toNat
    cases hc : decDigits n.toNat with
    | nil => exact absurd hc hne
    | cons c r =>
      have hcd := dec_dig n.toNat c (by rw [hc]; simp)
      rw [parseIntB_plain 64 c r (by omega) (by omega), ← hc, hu _ (by omega)]
      show signlessC _ _ = _
      unfold signlessC
      simp only
      rw [if_neg (by omega)]
      congr 1; omega

/-! ### Parts between a byte -/
def splitC (c : UInt8) : List UInt8 → List (List UInt8)
  | [] => [[]]
  | b :: r => if b = c then [] :: splitC c r else match splitC c r with
    | [] => [[b]]
    | p :: ps => (b :: p) :: ps
theorem splitC_ne (c : UInt8) : ∀ l, splitC c l ≠ []
  | [] => by simp [splitC]
  | b :: r => by
    unfold splitC
    split
    · simp
    · split <;> simp
theorem splitC_no {c : UInt8} : ∀ {l : List UInt8}, c ∉ l → splitC c l = [l]
  | [], _ => rfl
  | b :: r, h => by
    have h1 : b ≠ c := fun e => h (by simp [e])
    have h2 : c ∉ r := fun hm => h (by simp [hm])
    unfold splitC
    rw [if_neg h1, splitC_no h2]
theorem splitC_app {c : UInt8} : ∀ {l : List UInt8} (m : List UInt8), c ∉ l → splitC c (l ++ c :: m) = l :: splitC c m
  | [], m, _ => by
    show splitC c (c :: m) = _
    rw [splitC, if_pos rfl]
  | b :: r, m, h => by
    have h1 : b ≠ c := fun e => h (by simp [e])
    have h2 : c ∉ r := fun hm => h (by simp [hm])
    show splitC c (b :: (r ++ c :: m)) = _
    rw [splitC, if_neg h1, splitC_app m h2]
/-- The parts put together again. -/
def joinC (c : UInt8) : List (List UInt8) → List UInt8
  | [] => []
  | [p] => p
  | p :: q :: ps => p ++ c :: joinC c (q :: ps)
theorem join_split (c : UInt8) : ∀ l, joinC c (splitC c l) = l
  | [] => rfl
  | b :: r => by
    have ih := join_split c r
    have hne := splitC_ne c r
    unfold splitC
    split
    · rename_i h
      cases hs : splitC c r with
      | nil => exact absurd hs hne
      | cons p ps => rw [hs] at ih; show [] ++ c :: joinC c (p :: ps) = _; rw [ih, h]; rfl
    · cases hs : splitC c r with
      | nil => exact absurd hs hne
      | cons p ps =>
        rw [hs] at ih
        simp only
        cases ps with
        | nil => show b :: p = _; rw [show p = r from ih]
        | cons q qs => show b :: p ++ c :: joinC c (q :: qs) = _; rw [List.cons_append]; congr 1
theorem split_has (c : UInt8) : ∀ (l : List UInt8), ∀ p ∈ splitC c l, c ∉ p
  | [], p, hp => by simp [splitC] at hp; subst hp; simp
  | b :: r, p, hp => by
    have ih := split_has c r
    unfold splitC at hp
    split at hp
    · rcases List.mem_cons.1 hp with rfl | hp
      · simp
      · exact ih p hp
    · rename_i hb
      cases hs : splitC c r with
      | nil => exact absurd hs (splitC_ne c r)
      | cons q qs =>
        rw [hs] at hp ih
        rcases List.mem_cons.1 hp with rfl | hp
        · intro hm
          rcases List.mem_cons.1 hm with e | hm
          · exact hb e.symm
          · exact ih q (by simp) hm
        · exact ih p (by simp [hp])

/-! ### What the reference reads -/
def numS (l : List UInt8) : Int := if l = [] ∨ 9 < l.length ∨ (1 < l.length ∧ l.head? = some 48) ∨ ¬ (∀ b ∈ l, Dig b) then -1 else (foldD 0 l : Int)
def signedS : List UInt8 → Option Int
  | [] => none
  | c :: r => if c = 45 then (if numS r > 0 then some (-numS r) else none) else if numS (c :: r) ≥ 0 then some (numS (c :: r)) else none
theorem signedS_cons (c : UInt8) (r : List UInt8) : signedS (c :: r) = if c = 45 then (if numS r > 0 then some (-numS r) else none) else if numS (c :: r) ≥ 0 then some (numS (c :: r)) else none := rfl
theorem numS_dec {u : Nat} (h : u ≤ 999999999) : numS (decDigits u) = u := by
  have hc := dec_canon u
  have hl : (decDigits u).length ≤ 9 := by
    rw [decDigits_length]
    refine Classical.byContradiction fun hn => ?_
    have h1 : ∀ k v : Nat, nDigits v = k + 1 → 10 ^ k ≤ v ∨ k = 0 := by
      intro k
      induction k with
      | zero => intro v _; exact .inr rfl
      | succ k ih =>
        intro v hv
        by_cases h10 : v < 10
        · rw [nDigits_small h10] at hv; omega
        · rw [nDigits_big h10] at hv
          rcases ih (v / 10) (by omega) with h | h
          · left; rw [Nat.pow_succ]; omega
          · subst h; left; simp; omega
    obtain ⟨k, hk⟩ : ∃ k, nDigits u = k + 1 := ⟨nDigits u - 1, by have := nDigits_pos u; omega⟩
    rcases h1 k u hk with h2 | h2
    · have : 10 ^ 9 ≤ 10 ^ k := Nat.pow_le_pow_right (by omega) (by omega)
      omega
    · omega
  unfold numS
  rw [if_neg, foldD_dec]
  rintro (h1 | h1 | ⟨h1, h2⟩ | h1)
  · exact hc.1 h1
  · omega
  · exact hc.2.2 h1 h2
  · exact h1 hc.2.1
theorem numS_ge {l : List UInt8} (h : 0 ≤ numS l) : l = decDigits (foldD 0 l) ∧ numS l = foldD 0 l := by
  unfold numS at h ⊢
  split at h
  · omega
  · rename_i hc
    rw [if_neg hc]
    have c1 : l ≠ [] := fun e => hc (.inl e)
    have c2 : ¬ (1 < l.length ∧ l.head? = some 48) := fun e => hc (.inr (.inr (.inl e)))
    have c3 : ∀ b ∈ l, Dig b := Classical.byContradiction fun e => hc (.inr (.inr (.inr e)))
    exact ⟨(canon_dec _ l rfl ⟨c1, c3, fun hl e => c2 ⟨hl, e⟩⟩).symm, rfl⟩
theorem signed_itoa {n : Int} (h : -1000000 ≤ n ∧ n ≤ 1000000) : signedS (itoa n) = some n := by
  unfold itoa
  by_cases hn : n < 0
  · rw [if_pos hn]
    rw [signedS_cons, if_pos rfl, numS_dec (by omega), if_pos (by omega)]
    congr 1; omega
  · rw [if_neg hn]
    have hne := dec_ne n.toNat
    have hnum := numS_dec (u := n.toNat) (by omega)
    cases hc : decDigits n.toNat with
    | nil => exact absurd hc hne
    | cons c r =>
      have hcd := dec_dig n.toNat c (by rw [hc]; simp)
      have h45 : c ≠ 45 := fun e => by subst e; have : (45 : UInt8).toNat = 45 := rfl; omega
      rw [signedS_cons, if_neg h45, ← hc, hnum, if_pos (by omega)]
      congr 1; omega
theorem signed_some {l : List UInt8} {n : Int} (h : signedS l = some n) : l = itoa n := by
  cases l with
  | nil => cases h
  | cons c r =>
    rw [signedS_cons] at h
    split at h
    · rename_i h45
      split at h
      · rename_i hp
        obtain ⟨h1, h2⟩ := numS_ge (l := r) (by omega)
        have e : n = -numS r := (Option.some.inj h).symm
        unfold itoa
        rw [if_pos (by omega), h45, h1]
        congr 2
        omega
      · cases h
    · rename_i h45
      split at h
      · rename_i hp
        obtain ⟨h1, h2⟩ := numS_ge (l := c :: r) (by omega)
        have e : n = numS (c :: r) := (Option.some.inj h).symm
        unfold itoa
        rw [if_neg (by omega), e, h2, Int.toNat_natCast]
        exact h1
      · cases h

/-! ### Texts of points -/
def ptxt (p : Int × Int) : List UInt8 := itoa p.1 ++ 44 :: itoa p.2
def readS (t : List UInt8) : Option (Int × Int) := match splitC 44 t with
  | [u, v] => match signedS u, signedS v with
    | some x, some y => if isPtF x y = true then some (x, y) else none
    | _, _ => none
  | _ => none
def pint (l : List UInt8) : Int := match parseIntB 64 l with
  | .ok v => v
  | .range => intSat 64 l
  | _ => 0
def readI (t : List UInt8) : Option (Int × Int) :=
  if isPtF (pint (cut t [44]).1) (pint (cut t [44]).2.1) = true ∧ ptxt (pint (cut t [44]).1, pint (cut t [44]).2.1) = t then some (pint (cut t [44]).1, pint (cut t [44]).2.1) else none
theorem pt_bd {x y : Int} (h : isPtF x y = true) : (-1000000 ≤ x ∧ x ≤ 1000000) ∧ (-1000000 ≤ y ∧ y ≤ 1000000) := isPtF_iff.1 h
theorem split_ptxt (p : Int × Int) : splitC 44 (ptxt p) = [itoa p.1, itoa p.2] := by
  unfold ptxt
  rw [splitC_app _ (itoa_no (.inl rfl)), splitC_no (itoa_no (.inl rfl))]
theorem readS_iff {t : List UInt8} {p : Int × Int} : readS t = some p ↔ isPtF p.1 p.2 = true ∧ t = ptxt p := by
  constructor
  · intro h
    unfold readS at h
    split at h
    · rename_i u v hs
      split at h
      · rename_i x y hx hy
        split at h
        · rename_i hpt
          have e : (x, y) = p := Option.some.inj h
          subst e
          refine ⟨hpt, ?_⟩
          have := join_split 44 t
          rw [hs] at this
          rw [← this, signed_some hx, signed_some hy]
          rfl
        · cases h
      · cases h
    · cases h
  · rintro ⟨h1, rfl⟩
    have hb := pt_bd h1
    unfold readS
    rw [split_ptxt]
    simp only [signed_itoa hb.1, signed_itoa hb.2]
    rw [if_pos h1]
theorem index_at (c : UInt8) : ∀ {l : List UInt8} (m : List UInt8), c ∉ l → index (l ++ c :: m) [c] = l.length
  | [], m, _ => by
    show index (c :: m) [c] = _
    unfold index
    rw [if_pos (by simp [List.isPrefixOf])]
    rfl
  | b :: r, m, h => by
    have h1 : c ≠ b := fun e => h (by simp [e])
    have h2 : c ∉ r := fun hm => h (by simp [hm])
    show index (b :: (r ++ c :: m)) [c] = _
    unfold index
    rw [if_neg (by simp [List.isPrefixOf, h1]), index_at c m h2]
    rw [if_neg (by simp)]
    simp
theorem cut_ptxt (p : Int × Int) : cut (ptxt p) [44] = (itoa p.1, itoa p.2, true) := by
  unfold cut ptxt
  rw [index_at 44 _ (itoa_no (.inl rfl)), if_pos (by omega)]
  simp
theorem readI_iff {t : List UInt8} {p : Int × Int} : readI t = some p ↔ isPtF p.1 p.2 = true ∧ t = ptxt p := by
  constructor
  · intro h
    unfold readI at h
    split at h
    · rename_i hc
      have e := Option.some.inj h
      subst e
      exact ⟨hc.1, hc.2.symm⟩
    · cases h
  · rintro ⟨h1, rfl⟩
    have hb := pt_bd h1
    have e1 : pint (cut (ptxt p) [44]).1 = p.1 := by rw [cut_ptxt]; unfold pint; rw [parse_itoa hb.1]
    have e2 : pint (cut (ptxt p) [44]).2.1 = p.2 := by rw [cut_ptxt]; unfold pint; rw [parse_itoa hb.2]
    unfold readI
    rw [e1, e2, if_pos ⟨h1, rfl⟩]
/-- Both read alike. -/
theorem read_eq (t : List UInt8) : readI t = readS t := by
  cases h : readS t with
  | some p => exact readI_iff.2 (readS_iff.1 h)
  | none =>
    cases h2 : readI t with
    | none => rfl
    | some p => rw [readS_iff.2 (readI_iff.1 h2)] at h; cases h

/-! ### Byte arrays -/
theorem bytes_app (l m : List UInt8) : (⟨l.toArray⟩ : ByteArray) ++ ⟨m.toArray⟩ = ⟨(l ++ m).toArray⟩ := by
  apply ByteArray.ext
  rw [ByteArray.data_append]
  simp
theorem bytes_size (l : List UInt8) : (⟨l.toArray⟩ : ByteArray).size = l.length := by
  show l.toArray.size = _
  simp
theorem itoa_len {n : Int} (h : -1000000 ≤ n ∧ n ≤ 1000000) : (itoa n).length ≤ 30 := by
  have key : ∀ u : Nat, u ≤ 1000000 → (decDigits u).length ≤ 20 := by
    intro u hu
    rw [decDigits_length]
    have : ∀ k v : Nat, v < 10 ^ (k + 1) → nDigits v ≤ k + 1 := by
      intro k
      induction k with
      | zero => intro v hv; rw [nDigits_small (by simpa using hv)]; omega
      | succ k ih =>
        intro v hv
        by_cases h10 : v < 10
        · rw [nDigits_small h10]; omega
        · rw [nDigits_big h10]
          have := ih (v / 10) (by rw [Nat.pow_succ] at hv; omega)
          omega
    have := this 6 u (by simp; omega)
    omega
  unfold itoa
  split
  · have := key n.natAbs (by omega)
    simp only [List.length_cons]; omega
  · have := key n.toNat (by omega)
    omega
theorem ptxt_len {x y : Int} (h : isPtF x y = true) : (ptxt (x, y)).length ≤ 61 := by
  have hb := pt_bd h
  have h1 := itoa_len hb.1
  have h2 := itoa_len hb.2
  unfold ptxt
  simp only [List.length_append, List.length_cons]; omega
theorem txt_cat {a b : Int} : (⟨(itoa a).toArray⟩ : ByteArray) ++ ⟨#[44]⟩ ++ ⟨(itoa b).toArray⟩ = ⟨(ptxt (a, b)).toArray⟩ := by
  rw [show (⟨#[44]⟩ : ByteArray) = ⟨[44].toArray⟩ from rfl, bytes_app, bytes_app]
  unfold ptxt
  simp
theorem cut_len (s : List UInt8) : (cut s [44]).1.length ≤ s.length ∧ (cut s [44]).2.1.length ≤ s.length := by
  unfold cut
  split
  · simp only [List.length_take, List.length_drop]; omega
  · simp
theorem readI_some {t : List UInt8} {p : Int × Int} (h : readI t = some p) : pint (cut t [44]).1 = p.1 ∧ pint (cut t [44]).2.1 = p.2 ∧ isPtF p.1 p.2 = true ∧ ptxt (p.1, p.2) = t := by
  unfold readI at h
  split at h
  · rename_i hc
    have e := Option.some.inj h
    subst e
    exact ⟨rfl, rfl, hc.1, hc.2⟩
  · cases h
theorem readI_none {t : List UInt8} (h : readI t = none) (h1 : isPtF (pint (cut t [44]).1) (pint (cut t [44]).2.1) = true) : ptxt (pint (cut t [44]).1, pint (cut t [44]).2.1) ≠ t := fun e => by
  unfold readI at h
  rw [if_pos ⟨h1, e⟩] at h
  cases h
theorem same_txt {s : ByteArray} {x y : Int} (h : ptxt (x, y) = s.data.toList) : ((⟨(ptxt (x, y)).toArray⟩ : ByteArray).data.toList == s.data.toList) = true := by
  rw [h]; simp
theorem other_txt {s : ByteArray} {x y : Int} (h : ptxt (x, y) ≠ s.data.toList) : ((⟨(ptxt (x, y)).toArray⟩ : ByteArray).data.toList == s.data.toList) = false := by
  simpa using h
end Go.Ev
end

section
/-
  Numbers out of digits, read from the left: the loop of the reference.
  Conditions: as each lemma states.
-/
set_option linter.unusedVariables false
set_option linter.unusedSimpArgs false
namespace Go.Ev
open Go.Lib

theorem take_getD {l : List UInt8} {k : Nat} (h : k < l.length) : l.take (k + 1) = l.take k ++ [l.getD k 0] := by
  rw [List.take_add_one]
  congr 1
  simp [List.getD, h]
theorem foldD_lt' : ∀ (l : List UInt8) (acc : Nat), (∀ b ∈ l, Dig b) → foldD acc l < (acc + 1) * 10 ^ l.length
  | [], acc, _ => by rw [List.length_nil, Nat.pow_zero, Nat.mul_one]; exact Nat.lt_succ_self acc
  | c :: r, acc, h => by
    have h2 := h c (by simp)
    have h3 : acc * 10 + (c.toNat - 48) + 1 ≤ 10 * (acc + 1) := by omega
    have h1 := foldD_lt' r (acc * 10 + (c.toNat - 48)) fun x hx => h x (by simp [hx])
    show foldD (acc * 10 + (c.toNat - 48)) r < _
    rw [List.length_cons, Nat.pow_succ]
    refine Nat.lt_of_lt_of_le h1 ?_
    rw [Nat.mul_comm (10 ^ _) 10, ← Nat.mul_assoc, Nat.mul_comm (acc + 1) 10]
    exact Nat.mul_le_mul_right _ h3
theorem foldD_lt {l : List UInt8} (h : ∀ b ∈ l, Dig b) : foldD 0 l < 10 ^ l.length := by
  have := foldD_lt' l 0 h
  rw [Nat.zero_add, Nat.one_mul] at this
  exact this
structure NumI (l : List UInt8) (i n : Int) : Prop where
  lo : 0 ≤ i
  hi : i ≤ l.length
  len : l.length ≤ 9
  ne : l ≠ []
  hd : ¬ (1 < l.length ∧ l.head? = some 48)
  dig : ∀ b ∈ l.take i.toNat, Dig b
  val : n = (foldD 0 (l.take i.toNat) : Int)
theorem ba_len (z : ByteArray) : z.size = z.data.toList.length := by simp
theorem numS_b1 {z : ByteArray} (h : decide ((z.size : Int) = 0) = true) : Value.int IntKind.i64 (-1) = .int .i64 (numS z.data.toList) := by
  have h := of_decide_eq_true h
  rw [ba_len] at h
  have : z.data.toList = [] := List.length_eq_zero_iff.1 (by omega)
  unfold numS; rw [if_pos (.inl this)]
theorem numS_b2 {z : ByteArray} (h : decide ((z.size : Int) > 9) = true) : Value.int IntKind.i64 (-1) = .int .i64 (numS z.data.toList) := by
  have h := of_decide_eq_true h
  rw [ba_len] at h
  unfold numS; rw [if_pos (.inr (.inl (by omega)))]
theorem head_getD {l : List UInt8} (h : 0 < l.length) : l.head? = some (l.getD 0 0) := by
  cases l with
  | nil => simp at h
  | cons a l => rfl
theorem u8_toNat {b : UInt8} {k : Nat} (hk : k < 256) : b = UInt8.ofNat k ↔ b.toNat = k := by
  constructor
  · rintro rfl; rw [UInt8.toNat_ofNat']; omega
  · intro h; apply UInt8.toNat_inj.1; rw [UInt8.toNat_ofNat', h]; omega
theorem numS_b3 {z : ByteArray} (h1 : decide ((z.size : Int) > 1) = true) (h2 : decide (((z.data.toList.getD (Int.toNat 0) 0).toNat : Int) = 48) = true) : Value.int IntKind.i64 (-1) = .int .i64 (numS z.data.toList) := by
  have h1 := of_decide_eq_true h1
  have h2 := of_decide_eq_true h2
  rw [ba_len] at h1
  have e : z.data.toList.getD 0 0 = 48 := (u8_toNat (k := 48) (by decide)).2 (by have : Int.toNat 0 = 0 := rfl; rw [this] at h2; omega)
  unfold numS; rw [if_pos (.inr (.inr (.inl ⟨by omega, by rw [head_getD (by omega), e]⟩)))]
theorem NumI.startL {l : List UInt8} (h1 : l ≠ []) (h2 : l.length ≤ 9) (h3 : ¬ (1 < l.length ∧ l.head? = some 48)) : NumI l 0 0 :=
  ⟨Int.le_refl _, by omega, h2, h1, h3, fun b hb => by simp at hb, rfl⟩
theorem NumI.start1 {z : ByteArray} (h1 : decide ((z.size : Int) = 0) = false) (h2 : decide ((z.size : Int) > 9) = false) (h3 : decide (((z.data.toList.getD (Int.toNat 0) 0).toNat : Int) = 48) = false) : NumI z.data.toList 0 0 := by
  have h1 := of_decide_eq_false h1
  have h2 := of_decide_eq_false h2
  have h3 := of_decide_eq_false h3
  rw [ba_len] at h1 h2
  refine NumI.startL (fun e => by rw [e] at h1; exact h1 rfl) (by omega) ?_
  rintro ⟨h4, h5⟩
  rw [head_getD (by omega)] at h5
  have e := (u8_toNat (b := z.data.toList.getD 0 0) (k := 48) (by decide)).1 (Option.some.inj h5)
  exact h3 (by rw [show Int.toNat 0 = 0 from rfl, e]; rfl)
theorem NumI.start2 {z : ByteArray} (h1 : decide ((z.size : Int) = 0) = false) (h2 : decide ((z.size : Int) > 9) = false) (h3 : decide ((z.size : Int) > 1) = false) : NumI z.data.toList 0 0 := by
  have h1 := of_decide_eq_false h1
  have h2 := of_decide_eq_false h2
  have h3 := of_decide_eq_false h3
  rw [ba_len] at h1 h2 h3
  exact NumI.startL (fun e => by rw [e] at h1; exact h1 rfl) (by omega) fun h => by omega
theorem NumI.bnd {l : List UInt8} {i n : Int} (h : NumI l i n) : 0 ≤ n ∧ n < 1000000000 := by
  have h1 := foldD_lt h.dig
  have h2 : (l.take i.toNat).length ≤ 9 := by rw [List.length_take]; have := h.len; omega
  have h3 : 10 ^ (l.take i.toNat).length ≤ 10 ^ 9 := Nat.pow_le_pow_right (by decide) h2
  have h4 := h.val
  generalize foldD 0 (l.take i.toNat) = q at h1 h4
  generalize 10 ^ (l.take i.toNat).length = r at h1 h3
  have e : (10 : Nat) ^ 9 = 1000000000 := rfl
  rw [e] at h3
  omega
theorem NumI.stop {z : ByteArray} {i n : Int} (h : NumI z.data.toList i n) (hi : decide (i < (z.size : Int)) = false) : Value.int IntKind.i64 n = .int .i64 (numS z.data.toList) := by
  have hi := of_decide_eq_false hi
  rw [ba_len] at hi
  have h1 := h.hi
  have h0 := h.lo
  have hd := h.dig
  have hv := h.val
  rw [List.take_of_length_le (by omega)] at hd hv
  unfold numS
  rw [if_neg, ← hv]
  rintro (e | e | e | e)
  · exact h.ne e
  · have := h.len; omega
  · exact h.hd e
  · exact e hd
theorem getD_in {l : List UInt8} {k : Nat} (h : k < l.length) : l.getD k 0 ∈ l := by
  have e : l.getD k 0 = l[k] := by simp [List.getD, h]
  rw [e]; exact List.getElem_mem _
theorem NumI.bad {z : ByteArray} {i n : Int} (h : NumI z.data.toList i n) (hi : decide (i < (z.size : Int)) = true) (hb : ¬ Dig (z.data.toList.getD i.toNat 0)) : Value.int IntKind.i64 (-1) = .int .i64 (numS z.data.toList) := by
  have hi := of_decide_eq_true hi
  rw [ba_len] at hi
  have h0 := h.lo
  have hm := getD_in (l := z.data.toList) (k := i.toNat) (by omega)
  unfold numS
  rw [if_pos (.inr (.inr (.inr fun hd => hb (hd _ hm))))]
theorem NumI.bad1 {z : ByteArray} {i n : Int} (h : NumI z.data.toList i n) (hi : decide (i < (z.size : Int)) = true) (hb : decide (((z.data.toList.getD i.toNat 0).toNat : Int) < 48) = true) : Value.int IntKind.i64 (-1) = .int .i64 (numS z.data.toList) :=
  h.bad hi fun hd => by have := of_decide_eq_true hb; have := hd.1; omega
theorem NumI.bad2 {z : ByteArray} {i n : Int} (h : NumI z.data.toList i n) (hi : decide (i < (z.size : Int)) = true) (hb : decide (((z.data.toList.getD i.toNat 0).toNat : Int) > 57) = true) : Value.int IntKind.i64 (-1) = .int .i64 (numS z.data.toList) :=
  h.bad hi fun hd => by have := of_decide_eq_true hb; have := hd.2; omega
theorem u8wrap {x : Int} (h0 : 0 ≤ x) (h1 : x < 256) : IntKind.u8.wrap x = x := by
  unfold IntKind.wrap IntKind.signed IntKind.bits
  simp
  omega
theorem w64_small {x : Int} (h0 : -9223372036854775808 ≤ x) (h1 : x ≤ 9223372036854775807) : w64 x = x := by rw [w64_def]; omega
theorem NumI.next {z : ByteArray} {i n : Int} (h : NumI z.data.toList i n) (hi : decide (i < (z.size : Int)) = true) (h1 : decide (((z.data.toList.getD i.toNat 0).toNat : Int) < 48) = false) (h2 : decide (((z.data.toList.getD i.toNat 0).toNat : Int) > 57) = false) :
    NumI z.data.toList (w64 (i + 1)) (w64 (w64 (n * 10) + w64 (IntKind.u8.wrap ((z.data.toList.getD i.toNat 0).toNat - 48)))) := by
  have hi := of_decide_eq_true hi
  have h1 := of_decide_eq_false h1
  have h2 := of_decide_eq_false h2
  have hb := h.bnd
  have h0 := h.lo
  rw [ba_len] at hi
  have hlen := h.len
  rw [w64_small (x := i + 1) (by omega) (by omega), u8wrap (by omega) (by omega), w64_small (x := _ - 48) (by omega) (by omega), w64_small (x := n * 10) (by omega) (by omega), w64_small (by omega) (by omega)]
  have hk : i.toNat < z.data.toList.length := by omega
  have e : (i + 1).toNat = i.toNat + 1 := by omega
  refine ⟨by omega, by omega, hlen, h.ne, h.hd, ?_, ?_⟩
  · rw [e, take_getD hk]
    intro b hb
    rcases List.mem_append.1 hb with hb | hb
    · exact h.dig b hb
    · rw [List.mem_singleton] at hb
      subst hb
      exact ⟨by omega, by omega⟩
  · rw [e, take_getD hk, foldD_app, foldD_one, h.val]
    generalize foldD 0 _ = q
    omega
theorem NumI.mu {z : ByteArray} {i n : Int} (h : NumI z.data.toList i n) (hi : decide (i < (z.size : Int)) = true) : ((z.size : Int) - w64 (i + 1)).toNat < ((z.size : Int) - i).toNat := by
  have hi := of_decide_eq_true hi
  have h0 := h.lo
  have hl := h.len
  rw [← ba_len] at hl
  rw [w64_small (by omega) (by omega)]
  omega
theorem NumI.inside {z : ByteArray} {i n : Int} (h : NumI z.data.toList i n) (hi : decide (i < (z.size : Int)) = true) : decide (0 ≤ i ∧ i < (z.size : Int)) = true := decide_eq_true ⟨h.lo, of_decide_eq_true hi⟩
/-! ### Signed numbers: the value and whether there is one -/
def sgnV (l : List UInt8) : Int := if l.head? = some 45 then -numS (l.drop 1) else numS l
def sgnB (l : List UInt8) : Bool := if l.head? = some 45 then decide (numS (l.drop 1) > 0) else decide (numS l ≥ 0)
theorem signedS_v (l : List UInt8) : signedS l = if sgnB l = true then some (sgnV l) else none := by
  cases l with
  | nil => rfl
  | cons c r =>
    rw [signedS_cons]
    unfold sgnB sgnV
    simp only [List.head?_cons, Option.some.injEq, List.drop_succ_cons, List.drop_zero]
    by_cases h : c = 45
    · simp only [if_pos h, decide_eq_true_eq]
    · simp only [if_neg h, decide_eq_true_eq]
theorem extract_list (z : ByteArray) (a b : Nat) : (z.extract a b).data.toList = (z.data.toList.drop a).take (b - a) := by
  rw [ByteArray.data_extract, Array.toList_extract, List.extract_eq_take_drop]
theorem extract_tail (z : ByteArray) (a : Nat) : (z.extract a z.size).data.toList = z.data.toList.drop a := by
  rw [extract_list, List.take_of_length_le]
  rw [List.length_drop, ba_len]; omega
theorem numS_bnd (l : List UInt8) : -1 ≤ numS l ∧ numS l < 1000000000 := by
  unfold numS
  split
  · omega
  · rename_i h
    have hd : ∀ b ∈ l, Dig b := Classical.byContradiction fun e => h (.inr (.inr (.inr e)))
    have hl : ¬ 9 < l.length := fun e => h (.inr (.inl e))
    have h1 := foldD_lt hd
    have h3 : 10 ^ l.length ≤ 10 ^ 9 := Nat.pow_le_pow_right (by decide) (by omega)
    rw [show (10 : Nat) ^ 9 = 1000000000 from rfl] at h3
    generalize foldD 0 l = q at h1 ⊢
    generalize 10 ^ l.length = r at h1 h3
    omega
theorem zin0 {z : ByteArray} (h : decide ((z.size : Int) > 0) = true) : decide (0 ≤ (0 : Int) ∧ 0 < (z.size : Int)) = true := decide_eq_true ⟨Int.le_refl _, of_decide_eq_true h⟩
theorem zin1 {z : ByteArray} (h : decide ((z.size : Int) > 0) = true) : decide (0 ≤ (1 : Int) ∧ 1 ≤ (z.size : Int)) = true := decide_eq_true ⟨by decide, by have := of_decide_eq_true h; omega⟩
theorem sgn_head {z : ByteArray} (h : decide ((z.size : Int) > 0) = true) : z.data.toList.head? = some (z.data.toList.getD (Int.toNat 0) 0) := by
  have h := of_decide_eq_true h
  rw [ba_len] at h
  exact head_getD (by omega)
theorem sgn1 {z : ByteArray} (h : decide ((z.size : Int) > 0) = true) (h1 : decide (((z.data.toList.getD (Int.toNat 0) 0).toNat : Int) = 45) = true) :
    Value.tuple #[.int .i64 (w64 (0 - numS (z.extract (Int.toNat 1) z.size).data.toList)), .bool (decide (numS (z.extract (Int.toNat 1) z.size).data.toList > 0))] = .tuple #[.int .i64 (sgnV z.data.toList), .bool (sgnB z.data.toList)] := by
  have h1 := of_decide_eq_true h1
  have e : z.data.toList.getD (Int.toNat 0) 0 = 45 := (u8_toNat (k := 45) (by decide)).2 (by omega)
  have hh := sgn_head h
  rw [e] at hh
  rw [show Int.toNat 1 = 1 from rfl, extract_tail]
  have hb := numS_bnd (z.data.toList.drop 1)
  unfold sgnV sgnB
  rw [if_pos hh, if_pos hh, w64_small (by omega) (by omega), Int.zero_sub]
theorem sgn23 {z : ByteArray} (h : z.data.toList.head? ≠ some 45) :
    Value.tuple #[.int .i64 (numS z.data.toList), .bool (decide (numS z.data.toList ≥ 0))] = .tuple #[.int .i64 (sgnV z.data.toList), .bool (sgnB z.data.toList)] := by
  unfold sgnV sgnB
  rw [if_neg h, if_neg h]
theorem sgn2 {z : ByteArray} (h : decide ((z.size : Int) > 0) = true) (h1 : decide (((z.data.toList.getD (Int.toNat 0) 0).toNat : Int) = 45) = false) : z.data.toList.head? ≠ some 45 := by
  rw [sgn_head h]
  intro e
  have := (u8_toNat (b := z.data.toList.getD (Int.toNat 0) 0) (k := 45) (by decide)).1 (Option.some.inj e)
  exact of_decide_eq_false h1 (by rw [this]; rfl)
theorem sgn3 {z : ByteArray} (h : decide ((z.size : Int) > 0) = false) : z.data.toList.head? ≠ some 45 := by
  have h := of_decide_eq_false h
  rw [ba_len] at h
  have : z.data.toList = [] := List.length_eq_zero_iff.1 (by omega)
  rw [this]; simp
end Go.Ev
end

section
/-
  Parts of a text between a byte: the loop of the reference.
  Conditions: as each lemma states.
-/
set_option linter.unusedVariables false
set_option linter.unusedSimpArgs false
namespace Go.Ev
open Go.Lib Go.RowKit

/-- Texts as cells. -/
def tl (ps : List (List UInt8)) : List Value := ps.map fun p => .string ⟨p.toArray⟩
theorem tl_len (ps : List (List UInt8)) : (tl ps).length = ps.length := by unfold tl; rw [List.length_map]
theorem tl_snoc (ps : List (List UInt8)) (p : List UInt8) : tl (ps ++ [p]) = tl ps ++ [.string ⟨p.toArray⟩] := by unfold tl; simp
theorem row_tl {ps : List (List UInt8)} {sp : List Value} {n c : Nat} (h : Row (tl ps) sp n c 1) : n = ps.length := by have := h.len; rw [tl_len] at this; omega
theorem take_tl {ps : List (List UInt8)} {sp : List Value} {i : Nat} (h : i < ps.length) : List.take 1 (List.drop i (tl ps ++ sp)) = [.string ⟨(ps.getD i []).toArray⟩] := by
  rw [List.drop_append_of_le_length (by rw [tl_len]; omega)]
  unfold tl
  rw [← List.map_drop, List.drop_eq_getElem_cons h, List.map_cons, List.cons_append, List.take_succ_cons, List.take_zero]
  congr 3
  simp [List.getD, h]
theorem take_tl1 {ps : List (List UInt8)} {sp : List Value} {i o : Nat} (ho : o = i) (h : i < ps.length) : List.take 1 (List.drop o (tl ps ++ sp)) = [.string ⟨(ps.getD i []).toArray⟩] := by
  subst ho; exact take_tl h
theorem ext_str (z : ByteArray) (a b : Nat) : z.extract a b = ⟨((z.data.toList.drop a).take (b - a)).toArray⟩ := by
  apply ByteArray.ext
  apply Array.ext'
  rw [extract_list]
theorem ext_tail (z : ByteArray) (a : Nat) : z.extract a z.size = ⟨(z.data.toList.drop a).toArray⟩ := by
  apply ByteArray.ext
  apply Array.ext'
  rw [extract_tail]

structure SplI (z : ByteArray) (b : UInt8) (a i : Int) (L : List Value) (ps : List (List UInt8)) (sp : List Value) (n c : Nat) : Prop where
  lo : 0 ≤ a
  ai : a ≤ i
  hi : i ≤ z.size
  no : b ∉ (z.data.toList.drop a.toNat).take (i.toNat - a.toNat)
  eq : splitC b z.data.toList = ps ++ splitC b (z.data.toList.drop a.toNat)
  il : L = tl ps
  row : Row L sp n c 1
  cnt : (n : Int) ≤ a

theorem SplI.start (z : ByteArray) (b : UInt8) : SplI z b 0 0 [] [] [] 0 0 :=
  ⟨Int.le_refl _, Int.le_refl _, by omega, by simp, by simp, rfl, Row.empty, Int.le_refl _⟩
theorem SplI.inside {z : ByteArray} {b : UInt8} {a i : Int} {L : List Value} {ps : List (List UInt8)} {sp : List Value} {n c : Nat} (h : SplI z b a i L ps sp n c) (hi : decide (i < (z.size : Int)) = true) : decide (0 ≤ i ∧ i < (z.size : Int)) = true :=
  decide_eq_true ⟨by have := h.lo; have := h.ai; omega, of_decide_eq_true hi⟩
theorem SplI.upto {z : ByteArray} {b : UInt8} {a i : Int} {L : List Value} {ps : List (List UInt8)} {sp : List Value} {n c : Nat} (h : SplI z b a i L ps sp n c) : decide (0 ≤ i ∧ i ≤ (z.size : Int)) = true :=
  decide_eq_true ⟨by have := h.lo; have := h.ai; omega, h.hi⟩
theorem SplI.from_ {z : ByteArray} {b : UInt8} {a i : Int} {L : List Value} {ps : List (List UInt8)} {sp : List Value} {n c : Nat} (h : SplI z b a i L ps sp n c) : decide (0 ≤ a ∧ a ≤ (i.toNat : Int)) = true :=
  decide_eq_true ⟨h.lo, by have := h.lo; have := h.ai; omega⟩
theorem SplI.from2 {z : ByteArray} {b : UInt8} {a i : Int} {L : List Value} {ps : List (List UInt8)} {sp : List Value} {n c : Nat} (h : SplI z b a i L ps sp n c) : decide (0 ≤ a ∧ a ≤ (z.size : Int)) = true :=
  decide_eq_true ⟨h.lo, by have := h.ai; have := h.hi; omega⟩
theorem SplI.bd {z : ByteArray} {b : UInt8} {a i : Int} {L : List Value} {ps : List (List UInt8)} {sp : List Value} {n c : Nat} (h : SplI z b a i L ps sp n c) : n ≤ z.size := by
  have := h.cnt; have := h.ai; have := h.hi; omega
theorem SplI.stp {z : ByteArray} {b : UInt8} {a i : Int} {L : List Value} {ps : List (List UInt8)} {sp : List Value} {n c : Nat} (h : SplI z b a i L ps sp n c) (hz : z.size < 4294967281) (hi : decide (i < (z.size : Int)) = true) : w64 (i + 1) = i + 1 := by
  have := of_decide_eq_true hi
  have := h.lo; have := h.ai
  exact w64_small (by omega) (by omega)
theorem SplI.mu {z : ByteArray} {b : UInt8} {a i : Int} {L : List Value} {ps : List (List UInt8)} {sp : List Value} {n c : Nat} (h : SplI z b a i L ps sp n c) (hz : z.size < 4294967281) (hi : decide (i < (z.size : Int)) = true) : ((z.size : Int) - w64 (i + 1)).toNat < ((z.size : Int) - i).toNat := by
  rw [h.stp hz hi]
  have := of_decide_eq_true hi
  omega
theorem SplI.at_ {z : ByteArray} {b : UInt8} {a i : Int} {L : List Value} {ps : List (List UInt8)} {sp : List Value} {n c : Nat} (h : SplI z b a i L ps sp n c) (hi : i < (z.size : Int)) :
    (z.data.toList.drop a.toNat).take (i.toNat + 1 - a.toNat) = (z.data.toList.drop a.toNat).take (i.toNat - a.toNat) ++ [z.data.toList.getD i.toNat 0] := by
  have h1 := h.lo; have h2 := h.ai
  rw [ba_len] at hi
  rw [show i.toNat + 1 - a.toNat = (i.toNat - a.toNat) + 1 by omega, take_getD (by rw [List.length_drop]; omega)]
  congr 2
  simp only [List.getD, List.getElem?_drop]
  rw [show a.toNat + (i.toNat - a.toNat) = i.toNat by omega]
theorem SplI.next1 {z : ByteArray} {b : UInt8} {a i : Int} {L : List Value} {ps : List (List UInt8)} {sp : List Value} {n c : Nat} (h : SplI z b a i L ps sp n c) (hz : z.size < 4294967281) (hi : decide (i < (z.size : Int)) = true) (hb : decide (((z.data.toList.getD i.toNat 0).toNat : Int) = (b.toNat : Int)) = false) : SplI z b a (w64 (i + 1)) L ps sp n c := by
  rw [h.stp hz hi]
  have hi := of_decide_eq_true hi
  have hb := of_decide_eq_false hb
  have h1 := h.lo; have h2 := h.ai
  refine ⟨h1, by omega, by omega, ?_, h.eq, h.il, h.row, h.cnt⟩
  rw [show (i + 1).toNat = i.toNat + 1 by omega, h.at_ hi]
  intro hm
  rcases List.mem_append.1 hm with hm | hm
  · exact h.no hm
  · rw [List.mem_singleton] at hm
    exact hb (by rw [hm])
theorem SplI.cut {z : ByteArray} {b : UInt8} {a i : Int} {L : List Value} {ps : List (List UInt8)} {sp : List Value} {n c : Nat} (h : SplI z b a i L ps sp n c) (hi : i < (z.size : Int)) (hb : ((z.data.toList.getD i.toNat 0).toNat : Int) = (b.toNat : Int)) :
    splitC b (z.data.toList.drop a.toNat) = (z.data.toList.drop a.toNat).take (i.toNat - a.toNat) :: splitC b (z.data.toList.drop (i.toNat + 1)) := by
  have h1 := h.lo; have h2 := h.ai
  have hc : z.data.toList.getD i.toNat 0 = b := UInt8.toNat_inj.1 (by omega)
  have hi' := hi
  rw [ba_len] at hi'
  have e : z.data.toList.drop a.toNat = (z.data.toList.drop a.toNat).take (i.toNat - a.toNat) ++ b :: z.data.toList.drop (i.toNat + 1) := by
    have e1 : (z.data.toList.drop a.toNat).drop (i.toNat - a.toNat) = b :: z.data.toList.drop (i.toNat + 1) := by
      rw [List.drop_drop, show a.toNat + (i.toNat - a.toNat) = i.toNat by omega, List.drop_eq_getElem_cons (show i.toNat < z.data.toList.length by omega)]
      congr 1
      rw [← hc]
      simp only [List.getD]
      rw [List.getElem?_eq_getElem (show i.toNat < z.data.toList.length by omega)]
      rfl
    rw [← e1, List.take_append_drop]
  conv => lhs; rw [e]
  exact splitC_app _ h.no
theorem SplI.next2 {z : ByteArray} {b : UInt8} {a i : Int} {L : List Value} {ps : List (List UInt8)} {sp sp' : List Value} {n c c' : Nat} (h : SplI z b a i L ps sp n c) (hz : z.size < 4294967281) (hi : decide (i < (z.size : Int)) = true) (hb : decide (((z.data.toList.getD i.toNat 0).toNat : Int) = (b.toNat : Int)) = true)
    (hr : Row (L ++ [.string (z.extract a.toNat i.toNat)]) sp' (n + 1) c' 1) :
    SplI z b (w64 (i + 1)) (w64 (i + 1)) (L ++ [.string (z.extract a.toNat i.toNat)]) (ps ++ [(z.data.toList.drop a.toNat).take (i.toNat - a.toNat)]) sp' (n + 1) c' := by
  rw [h.stp hz hi]
  have hi := of_decide_eq_true hi
  have hb := of_decide_eq_true hb
  have h1 := h.lo; have h2 := h.ai; have h3 := h.cnt
  refine ⟨by omega, by omega, by omega, by simp, ?_, by rw [tl_snoc, h.il, ext_str], hr, by omega⟩
  rw [h.eq, h.cut hi hb, show (i + 1).toNat = i.toNat + 1 by omega, List.append_assoc]
  rfl
theorem SplI.fin {z : ByteArray} {b : UInt8} {a i : Int} {L : List Value} {ps : List (List UInt8)} {sp sp' : List Value} {n c c' : Nat} (h : SplI z b a i L ps sp n c) (hi : decide (i < (z.size : Int)) = false)
    (hr : Row (L ++ [.string (z.extract a.toNat z.size)]) sp' (n + 1) c' 1) : L ++ [.string (z.extract a.toNat z.size)] = tl (splitC b z.data.toList) ∧ Row (tl (splitC b z.data.toList)) sp' (n + 1) c' 1 := by
  have hi := of_decide_eq_false hi
  have h1 := h.lo; have h2 := h.ai; have h3 := h.hi; have hno := h.no
  rw [List.take_of_length_le (by rw [List.length_drop, ← ba_len]; omega)] at hno
  have e : L ++ [.string (z.extract a.toNat z.size)] = tl (splitC b z.data.toList) := by
    rw [h.eq, splitC_no hno, tl_snoc, h.il, ext_tail]
  exact ⟨e, e ▸ hr⟩
theorem readS_form {l : List UInt8} {p : Int × Int} (h : readS l = some p) : ∃ u v, splitC 44 l = [u, v] ∧ sgnB u = true ∧ sgnB v = true ∧ isPtF (sgnV u) (sgnV v) = true ∧ p = (sgnV u, sgnV v) := by
  unfold readS at h
  split at h
  · rename_i u v hs
    refine ⟨u, v, hs, ?_⟩
    rw [signedS_v, signedS_v] at h
    by_cases h1 : sgnB u = true
    · by_cases h2 : sgnB v = true
      · rw [if_pos h1, if_pos h2] at h
        simp only at h
        split at h
        · rename_i h3
          exact ⟨h1, h2, h3, (Option.some.inj h).symm⟩
        · cases h
      · rw [if_pos h1, if_neg h2] at h; cases h
    · rw [if_neg h1] at h; cases h
  · cases h
theorem readS_no {l : List UInt8} (h : readS l = none) : (splitC 44 l).length ≠ 2 ∨ ∃ u v, splitC 44 l = [u, v] ∧ ¬ (sgnB u = true ∧ sgnB v = true ∧ isPtF (sgnV u) (sgnV v) = true) := by
  by_cases hl : (splitC 44 l).length = 2
  · right
    obtain ⟨u, v, hs⟩ : ∃ u v, splitC 44 l = [u, v] := by
      match hm : splitC 44 l, hl with
      | [u, v], _ => exact ⟨u, v, rfl⟩
    refine ⟨u, v, hs, ?_⟩
    rintro ⟨h1, h2, h3⟩
    unfold readS at h
    rw [hs] at h
    simp only [signedS_v, if_pos h1, if_pos h2, if_pos h3] at h
    cases h
  · exact .inl hl
theorem CallOK.mono_ {P : Program} {f : Nat} {args : List Value} {mem : Mem} {R k : Value → Mem → Prop} (h : CallOK P f args mem R) (hk : ∀ v m, R v m → k v m) : CallOK P f args mem k :=
  ⟨h.enters, fun w0 ρ w hm ha => (h.run w0 ρ w hm ha).mono fun e w' ⟨v, mem', σ, h1, h2, h3, h4⟩ => ⟨v, mem', σ, h1, h2, h3, hk _ _ h4⟩⟩
/-! ### Lists of points out of texts -/
theorem opt_em {α : Type} {o : Option α} {p : Prop} (h1 : o = none → p) (h2 : ∀ a, o = some a → p) : p := by
  cases h : o with
  | none => exact h1 h
  | some a => exact h2 a h
theorem split_le (c : UInt8) : ∀ (l : List UInt8), ∀ p ∈ splitC c l, p.length ≤ l.length
  | [], p, hp => by simp [splitC] at hp; subst hp; simp
  | b :: r, p, hp => by
    have ih := split_le c r
    unfold splitC at hp
    split at hp
    · rcases List.mem_cons.1 hp with rfl | hp
      · simp
      · exact Nat.le_succ_of_le (ih p hp)
    · cases hs : splitC c r with
      | nil => exact absurd hs (splitC_ne c r)
      | cons q qs =>
        rw [hs] at hp ih
        rcases List.mem_cons.1 hp with rfl | hp
        · rw [List.length_cons, List.length_cons]
          exact Nat.succ_le_succ (ih q (by simp))
        · exact Nat.le_succ_of_le (ih p (by simp [hp]))
theorem split_num (c : UInt8) : ∀ (l : List UInt8), (splitC c l).length ≤ l.length + 1
  | [] => by simp [splitC]
  | b :: r => by
    have ih := split_num c r
    unfold splitC
    split
    · rw [List.length_cons, List.length_cons]; omega
    · cases hs : splitC c r with
      | nil => exact absurd hs (splitC_ne c r)
      | cons q qs => rw [hs] at ih; simp only [List.length_cons] at ih ⊢; omega
/-- The parts up to the i-th are the texts of the points of P. -/
structure RdI (ps : List (List UInt8)) (i : Int) (L : List Value) (P : List (Int × Int)) (sp : List Value) (n c : Nat) : Prop where
  lo : 0 ≤ i
  hi : i ≤ ps.length
  eq : (ps.take i.toNat).map readS = P.map some
  il : L = pl P
  row : Row L sp n c 2
  cnt : (n : Int) = i
theorem RdI.start (ps : List (List UInt8)) : RdI ps 0 [] [] [] 0 0 := ⟨Int.le_refl _, by omega, by simp, rfl, Row.empty, rfl⟩
theorem getD_memL {ps : List (List UInt8)} {k : Nat} (h : k < ps.length) : ps.getD k [] ∈ ps := by
  have e : ps.getD k [] = ps[k] := by simp [List.getD, h]
  rw [e]; exact List.getElem_mem _
theorem take_getDL {ps : List (List UInt8)} {k : Nat} (h : k < ps.length) : ps.take (k + 1) = ps.take k ++ [ps.getD k []] := by
  rw [List.take_add_one]
  congr 1
  simp [List.getD, h]
theorem RdI.part {z : ByteArray} {b : UInt8} {i : Int} {L : List Value} {P : List (Int × Int)} {sp : List Value} {n c : Nat} (h : RdI (splitC b z.data.toList) i L P sp n c) (hz : z.size < 4294967281) : (⟨((splitC b z.data.toList).getD i.toNat []).toArray⟩ : ByteArray).size < 4294967281 := by
  rw [bytes_size]
  by_cases hk : i.toNat < (splitC b z.data.toList).length
  · have := split_le b z.data.toList _ (getD_memL hk)
    rw [← ba_len] at this
    omega
  · simp [List.getD, hk]
theorem RdI.next {ps : List (List UInt8)} {i : Int} {L : List Value} {P : List (Int × Int)} {sp sp' : List Value} {n c c' : Nat} {p : Int × Int} (h : RdI ps i L P sp n c) (hs : ps.length ≤ 4294967296) (hi : decide (i < (ps.length : Int)) = true) (hp : readS (ps.getD i.toNat []) = some p)
    (hr : Row (L ++ [iv p.1, iv p.2]) sp' (n + 1) c' 2) : RdI ps (w64 (i + 1)) (L ++ [iv p.1, iv p.2]) (P ++ [p]) sp' (n + 1) c' := by
  have hi := of_decide_eq_true hi
  have h0 := h.lo
  have hc := h.cnt
  rw [w64_small (by omega) (by omega)]
  refine ⟨by omega, by omega, ?_, by rw [pl_snoc, h.il], hr, by omega⟩
  rw [show (i + 1).toNat = i.toNat + 1 by omega, take_getDL (by omega), List.map_append, h.eq, List.map_cons, hp, List.map_append]
  rfl
theorem RdI.mu {ps : List (List UInt8)} {i : Int} {L : List Value} {P : List (Int × Int)} {sp : List Value} {n c : Nat} (h : RdI ps i L P sp n c) (hs : ps.length ≤ 4294967296) (hi : decide (i < (ps.length : Int)) = true) : ((ps.length : Int) - w64 (i + 1)).toNat < ((ps.length : Int) - i).toNat := by
  have hi := of_decide_eq_true hi
  have h0 := h.lo
  rw [w64_small (by omega) (by omega)]; omega
theorem map_some_inj : ∀ {P Q : List (Int × Int)}, P.map some = Q.map some → P = Q
  | [], [], _ => rfl
  | [], _ :: _, h => by simp at h
  | _ :: _, [], h => by simp at h
  | p :: P, q :: Q, h => by
    simp only [List.map_cons, List.cons.injEq, Option.some.injEq] at h
    rw [h.1, map_some_inj h.2]
theorem RdI.fin {ps : List (List UInt8)} {i : Int} {L : List Value} {P Q : List (Int × Int)} {sp : List Value} {n c : Nat} (h : RdI ps i L P sp n c) (hi : decide (i < (ps.length : Int)) = false) (hq : ps.map readS = Q.map some) : L = pl Q ∧ Row (pl Q) sp n c 2 := by
  have hi := of_decide_eq_false hi
  have e := h.eq
  rw [List.take_of_length_le (by omega), hq] at e
  have e2 := map_some_inj e
  subst e2
  exact ⟨h.il, h.il ▸ h.row⟩
theorem RdI.finB {ps : List (List UInt8)} {i : Int} {L : List Value} {P : List (Int × Int)} {sp : List Value} {n c : Nat} (h : RdI ps i L P sp n c) (hi : decide (i < (ps.length : Int)) = false) (hq : none ∈ ps.map readS) : False := by
  have hi := of_decide_eq_false hi
  have e := h.eq
  rw [List.take_of_length_le (by omega)] at e
  rw [e] at hq
  simp at hq
theorem RdI.good {ps : List (List UInt8)} {i : Int} {L : List Value} {P Q : List (Int × Int)} {sp : List Value} {n c : Nat} (h : RdI ps i L P sp n c) (hi : decide (i < (ps.length : Int)) = true) (hq : ps.map readS = Q.map some) (hn : readS (ps.getD i.toNat []) = none) : False := by
  have hi := of_decide_eq_true hi
  have h0 := h.lo
  have hm : readS (ps.getD i.toNat []) ∈ ps.map readS := List.mem_map_of_mem (getD_memL (by omega))
  rw [hn, hq] at hm
  simp at hm
theorem row_plD {Q : List (Int × Int)} {sp : List Value} {n c : Nat} (h : Row (pl Q) sp n c 2) : n = Q.length := (row_pl h).symm
end Go.Ev
end

section
/-
  The parts of a text, at most so many of them: what the program's reader of lists meets. The plain law.
  Conditions: none.
-/
set_option linter.unusedVariables false
set_option linter.unusedSimpArgs false
namespace Go.Ev
open Go.Lib

theorem mem_cut {c : UInt8} : ∀ {l : List UInt8}, c ∈ l → ∃ u m, l = u ++ c :: m ∧ c ∉ u
  | [], h => by cases h
  | b :: r, h => by
    by_cases hb : b = c
    · exact ⟨[], r, by rw [hb]; rfl, by simp⟩
    · have hr : c ∈ r := by
        rcases List.mem_cons.1 h with e | h
        · exact absurd e.symm hb
        · exact h
      obtain ⟨u, m, rfl, hu⟩ := mem_cut hr
      refine ⟨b :: u, m, rfl, fun hm => ?_⟩
      rcases List.mem_cons.1 hm with e | hm
      · exact hb e.symm
      · exact hu hm
theorem index_no {c : UInt8} : ∀ {l : List UInt8}, c ∉ l → index l [c] = -1
  | [], _ => by unfold index; simp
  | b :: r, h => by
    have h1 : c ≠ b := fun e => h (by simp [e])
    have h2 : c ∉ r := fun hm => h (by simp [hm])
    unfold index
    rw [if_neg (by simp [List.isPrefixOf, h1]), index_no h2]
    simp
theorem splitK_miss {c : UInt8} {l : List UInt8} (h : c ∉ l) : ∀ k, splitK [c] 0 k l = [l]
  | 0 => rfl
  | k + 1 => by unfold splitK; rw [index_no h]; simp
theorem splitK_hit {c : UInt8} {u m : List UInt8} (h : c ∉ u) (k : Nat) : splitK [c] 0 (k + 1) (u ++ c :: m) = u :: splitK [c] 0 k m := by
  rw [splitK, index_at c m h, if_neg (by rw [beq_iff_eq]; omega)]
  simp
theorem split_one {c : UInt8} {l : List UInt8} (h : (splitC c l).length ≤ 1) : c ∉ l := fun hm => by
  obtain ⟨u, m, rfl, hu⟩ := mem_cut hm
  rw [splitC_app m hu, List.length_cons] at h
  have := List.length_pos_iff.2 (splitC_ne c m)
  omega
theorem splitK_C (c : UInt8) : ∀ (k : Nat) (l : List UInt8), (splitC c l).length ≤ k + 1 → splitK [c] 0 k l = splitC c l
  | 0, l, h => by rw [splitC_no (split_one h)]; rfl
  | k + 1, l, h => by
    by_cases hm : c ∈ l
    · obtain ⟨u, m, rfl, hu⟩ := mem_cut hm
      rw [splitC_app m hu, List.length_cons] at h
      rw [splitC_app m hu, splitK_hit hu, splitK_C c k m (by omega)]
    · rw [splitK_miss hm, splitC_no hm]
theorem splitK_long (c : UInt8) : ∀ (k : Nat) (l : List UInt8), k + 1 < (splitC c l).length → (splitK [c] 0 k l).length = k + 1
  | 0, l, h => rfl
  | k + 1, l, h => by
    by_cases hm : c ∈ l
    · obtain ⟨u, m, rfl, hu⟩ := mem_cut hm
      rw [splitC_app m hu, List.length_cons] at h
      rw [splitK_hit hu, List.length_cons, splitK_long c k m (by omega)]
    · rw [splitC_no hm] at h; simp at h
theorem splitK_le (c : UInt8) : ∀ (k : Nat) (l : List UInt8), ∀ p ∈ splitK [c] 0 k l, p.length ≤ l.length
  | 0, l, p, hp => by
    have : p = l := by simpa [splitK] using hp
    rw [this]; exact Nat.le_refl _
  | k + 1, l, p, hp => by
    by_cases hm : c ∈ l
    · obtain ⟨u, m, rfl, hu⟩ := mem_cut hm
      rw [splitK_hit hu] at hp
      rw [List.length_append, List.length_cons]
      rcases List.mem_cons.1 hp with rfl | hp
      · omega
      · have := splitK_le c k m p hp
        omega
    · rw [splitK_miss hm] at hp
      have : p = l := by simpa using hp
      rw [this]; exact Nat.le_refl _
/-- The parts that the program reads. -/
def parts (z : ByteArray) : List (List UInt8) := splitK [59] 0 (min 101 (z.size + 1) - 1) z.data.toList
theorem parts_short {z : ByteArray} (h : (splitC 59 z.data.toList).length ≤ 101) : parts z = splitC 59 z.data.toList := by
  have h1 := split_num 59 z.data.toList
  have h2 := ba_len z
  exact splitK_C 59 _ _ (by omega)
theorem parts_long {z : ByteArray} (h : 101 < (splitC 59 z.data.toList).length) : (parts z).length = 101 := by
  have h1 := split_num 59 z.data.toList
  have h2 := ba_len z
  unfold parts
  rw [show min 101 (z.size + 1) - 1 = 100 by omega]
  exact splitK_long 59 100 _ h
theorem parts_len (z : ByteArray) : (parts z).length ≤ 101 := by
  rcases Nat.lt_or_ge 101 (splitC 59 z.data.toList).length with h | h
  · rw [parts_long h]; exact Nat.le_refl _
  · rw [parts_short h]; exact h
theorem parts_ne (z : ByteArray) : 1 ≤ (parts z).length := by
  rcases Nat.lt_or_ge 101 (splitC 59 z.data.toList).length with h | h
  · rw [parts_long h]; omega
  · rw [parts_short h]; exact List.length_pos_iff.2 (splitC_ne 59 _)
theorem parts_size {z : ByteArray} {k : Nat} (hz : z.size < 4294967281) : (⟨((parts z).getD k []).toArray⟩ : ByteArray).size < 4294967281 := by
  rw [bytes_size]
  by_cases hk : k < (parts z).length
  · have := splitK_le 59 _ _ _ (show (parts z).getD k [] ∈ splitK [59] 0 (min 101 (z.size + 1) - 1) z.data.toList from getD_memL hk)
    rw [← ba_len] at this
    omega
  · simp [List.getD, hk]
/-- What both readers answer: the points, at most a hundred. -/
structure Reads (z : ByteArray) (Q : List (Int × Int)) : Prop where
  all : (splitC 59 z.data.toList).map readS = Q.map some
  len : Q.length ≤ 100
theorem Reads.parts {z : ByteArray} {Q : List (Int × Int)} (h : Reads z Q) : (parts z).map readS = Q.map some := by
  have := congrArg List.length h.all
  rw [List.length_map, List.length_map] at this
  have := h.len
  rw [parts_short (by omega)]
  exact h.all
def rdL : List (List UInt8) → Option (List (Int × Int))
  | [] => some []
  | p :: ps => match readS p, rdL ps with
    | some a, some Q => some (a :: Q)
    | _, _ => none
theorem rdL_some : ∀ {ps : List (List UInt8)} {Q : List (Int × Int)}, rdL ps = some Q → ps.map readS = Q.map some
  | [], Q, h => by cases h; rfl
  | p :: ps, Q, h => by
    unfold rdL at h
    cases h1 : readS p with
    | none => rw [h1] at h; cases h
    | some a =>
      cases h2 : rdL ps with
      | none => rw [h1, h2] at h; cases h
      | some R =>
        rw [h1, h2] at h
        cases h
        rw [List.map_cons, h1, rdL_some h2]; rfl
theorem rdL_none : ∀ {ps : List (List UInt8)}, rdL ps = none → none ∈ ps.map readS
  | [], h => by cases h
  | p :: ps, h => by
    unfold rdL at h
    cases h1 : readS p with
    | none => rw [List.map_cons, h1]; simp
    | some a =>
      cases h2 : rdL ps with
      | none => rw [List.map_cons]; exact List.mem_cons_of_mem _ (rdL_none h2)
      | some R => rw [h1, h2] at h; cases h
/-- No such points: why, for either reader. -/
structure NoRead (z : ByteArray) : Prop where
  spec : none ∈ (splitC 59 z.data.toList).map readS ∨ ∃ Q : List (Int × Int), (splitC 59 z.data.toList).map readS = Q.map some ∧ 100 < Q.length
  impl : none ∈ (parts z).map readS ∨ 100 < (parts z).length
theorem reads_em (z : ByteArray) : (∃ Q, Reads z Q) ∨ NoRead z := by
  cases h : rdL (splitC 59 z.data.toList) with
  | some Q =>
    have h1 := rdL_some h
    rcases Nat.lt_or_ge 100 Q.length with h2 | h2
    · refine .inr ⟨.inr ⟨Q, h1, h2⟩, .inr ?_⟩
      have h3 := congrArg List.length h1
      rw [List.length_map, List.length_map] at h3
      rcases Nat.lt_or_ge 101 (splitC 59 z.data.toList).length with h4 | h4
      · rw [parts_long h4]; omega
      · rw [parts_short h4]; omega
    · exact .inl ⟨Q, h1, h2⟩
  | none =>
    have h1 := rdL_none h
    refine .inr ⟨.inl h1, ?_⟩
    rcases Nat.lt_or_ge 101 (splitC 59 z.data.toList).length with h4 | h4
    · right; rw [parts_long h4]; omega
    · left; rw [parts_short h4]; exact h1
/-! ### The program's loop -/
theorem RdI.small {z : ByteArray} {i : Int} {L : List Value} {P : List (Int × Int)} {sp : List Value} {n c : Nat} (h : RdI (parts z) i L P sp n c) : (parts z).length ≤ 4294967296 := by have := parts_len z; omega
theorem RdI.room {z : ByteArray} {i : Int} {L : List Value} {P : List (Int × Int)} {sp : List Value} {n c : Nat} (h : RdI (parts z) i L P sp n c) (hi : decide (i < ((parts z).length : Int)) = true) (hn : decide ((n : Int) = 100) = false) : n + 1 ≤ 100 := by
  have hi := of_decide_eq_true hi
  have hn := of_decide_eq_false hn
  have := h.cnt; have := parts_len z
  omega
theorem RdI.full {z : ByteArray} {i : Int} {L : List Value} {P Q : List (Int × Int)} {sp : List Value} {n c : Nat} (h : RdI (parts z) i L P sp n c) (hi : decide (i < ((parts z).length : Int)) = true) (hq : Reads z Q) (hn : decide ((n : Int) = 100) = true) : False := by
  have hi := of_decide_eq_true hi
  have hn := of_decide_eq_true hn
  have h1 := congrArg List.length hq.parts
  rw [List.length_map, List.length_map] at h1
  have := hq.len
  have := h.cnt
  omega
theorem RdI.bad {z : ByteArray} {i : Int} {L : List Value} {P : List (Int × Int)} {sp : List Value} {n c : Nat} (h : RdI (parts z) i L P sp n c) (hi : decide (i < ((parts z).length : Int)) = false) (hb : NoRead z) (h100 : n ≤ 100) : False := by
  rcases hb.impl with hb | hb
  · exact h.finB hi hb
  · have hi := of_decide_eq_false hi
    have := h.cnt; have := h.hi
    omega
end Go.Ev
end

section
/-
  Texts of lists of points: both sides write them alike, and they are read back. The plain law.
  Conditions: none.
-/
set_option linter.unusedVariables false
set_option linter.unusedSimpArgs false
namespace Go.Ev
open Go.Lib

/-! ### The first one that is no point -/
def badP (p : Int × Int) : Bool := !isPtF p.1 p.2
def idxR : List (Int × Int) → Int → Int
  | [], _ => -1
  | x :: xs, k => if badP x = true then k else idxR xs (k + 1)
theorem idxR_ge : ∀ (xs : List (Int × Int)) (k : Int), 0 ≤ k → decide (idxR xs k ≥ 0) = xs.any badP
  | [], k, hk => by simp [idxR]
  | x :: xs, k, hk => by
    rw [idxR, List.any_cons]
    cases h : badP x
    · rw [if_neg (by simp), Bool.false_or]
      exact idxR_ge xs (k + 1) (by omega)
    · rw [if_pos rfl, Bool.true_or]
      exact decide_eq_true hk
structure FirR (xs : List (Int × Int)) (i : Int) : Prop where
  lo : 0 ≤ i
  hi : i ≤ (xs.length : Int)
  eq : idxR (xs.drop i.toNat) i = idxR xs 0
theorem FirR.start (xs : List (Int × Int)) : FirR xs 0 := ⟨by omega, by omega, rfl⟩
theorem drop_atR {xs : List (Int × Int)} {k : Nat} (h : k < xs.length) : xs.drop k = xs.getD k (0, 0) :: xs.drop (k + 1) := by
  rw [List.drop_eq_getElem_cons h]
  simp [List.getD, h]
theorem FirR.hit {xs : List (Int × Int)} {i : Int} (h : FirR xs i) (hi : i < (xs.length : Int)) (hp : badP (xs.getD i.toNat (0, 0)) = true) : idxR xs 0 = i := by
  have h0 := h.lo
  rw [← h.eq, drop_atR (by omega), idxR, if_pos hp]
theorem FirR.next {xs : List (Int × Int)} {i : Int} (h : FirR xs i) (hi : i < (xs.length : Int)) (hl : xs.length ≤ 1048576) (hp : badP (xs.getD i.toNat (0, 0)) = false) : FirR xs (w64 (i + 1)) := by
  have h0 := h.lo
  rw [w64_small (by omega) (by omega)]
  refine ⟨by omega, by omega, ?_⟩
  rw [← h.eq, drop_atR (k := i.toNat) (by omega), idxR, hp, show (i + 1).toNat = i.toNat + 1 by omega]
  simp
theorem FirR.fin {xs : List (Int × Int)} {i : Int} (h : FirR xs i) (hi : ¬ i < (xs.length : Int)) : idxR xs 0 = -1 := by
  rw [← h.eq, List.drop_of_length_le (by omega)]
  rfl
theorem FirR.mu {xs : List (Int × Int)} {i : Int} (h : FirR xs i) (hi : i < (xs.length : Int)) (hl : xs.length ≤ 1048576) : ((xs.length : Int) - w64 (i + 1)).toNat < ((xs.length : Int) - i).toNat := by
  have h0 := h.lo
  rw [w64_small (by omega) (by omega)]; omega
/-- The reference's look: the first i are points. -/
structure CodI (xs : List (Int × Int)) (i : Int) : Prop where
  lo : 0 ≤ i
  hi : i ≤ (xs.length : Int)
  ok : (xs.take i.toNat).any badP = false
theorem CodI.start (xs : List (Int × Int)) : CodI xs 0 := ⟨by omega, by omega, rfl⟩
theorem take_snocR {xs : List (Int × Int)} {k : Nat} (h : k < xs.length) : xs.take (k + 1) = xs.take k ++ [xs.getD k (0, 0)] := by
  rw [List.take_add_one]
  simp [List.getD, h]
theorem CodI.next {xs : List (Int × Int)} {i : Int} (h : CodI xs i) (hi : i < (xs.length : Int)) (hl : xs.length ≤ 1048576) (hp : isPtF (xs.getD i.toNat (0, 0)).1 (xs.getD i.toNat (0, 0)).2 = true) : CodI xs (w64 (i + 1)) := by
  have h0 := h.lo
  rw [w64_small (by omega) (by omega)]
  refine ⟨by omega, by omega, ?_⟩
  rw [show (i + 1).toNat = i.toNat + 1 by omega, take_snocR (by omega), List.any_append, h.ok, List.any_cons, badP, hp]
  rfl
theorem CodI.mu {xs : List (Int × Int)} {i : Int} (h : CodI xs i) (hi : i < (xs.length : Int)) (hl : xs.length ≤ 1048576) : ((xs.length : Int) - w64 (i + 1)).toNat < ((xs.length : Int) - i).toNat := by
  have h0 := h.lo
  rw [w64_small (by omega) (by omega)]; omega
theorem CodI.bad {xs : List (Int × Int)} {i : Int} (h : CodI xs i) (hi : i < (xs.length : Int)) (hp : isPtF (xs.getD i.toNat (0, 0)).1 (xs.getD i.toNat (0, 0)).2 = false) : xs.any badP = true := by
  have h0 := h.lo
  have hm : xs.getD i.toNat (0, 0) ∈ xs := getD_mem (by omega)
  exact List.any_eq_true.2 ⟨_, hm, by unfold badP; rw [hp]; rfl⟩
theorem CodI.fin {xs : List (Int × Int)} {i : Int} (h : CodI xs i) (hi : ¬ i < (xs.length : Int)) : xs.any badP = false := by
  have h2 := h.ok
  rwa [List.take_of_length_le (by omega)] at h2
theorem good_at {Q : List (Int × Int)} (h : Q.any badP = false) {p : Int × Int} (hp : p ∈ Q) : isPtF p.1 p.2 = true := by
  have := List.any_eq_false.1 h p hp
  unfold badP at this
  simpa using this

/-! ### What is written -/
def ltxt (Q : List (Int × Int)) : List UInt8 := joinC 59 (Q.map ptxt)
theorem join_joinC (c : UInt8) : ∀ ps : List (List UInt8), join ps [c] = joinC c ps
  | [] => rfl
  | [p] => by rw [join_one]; rfl
  | p :: q :: ps => by
    have ih := join_joinC c (q :: ps)
    rw [join_cons] at ih ⊢
    show _ = p ++ c :: joinC c (q :: ps)
    rw [← ih]
    simp [joinTail]
theorem joinC_snoc (c : UInt8) : ∀ (ps : List (List UInt8)) (p : List UInt8), ps ≠ [] → joinC c (ps ++ [p]) = joinC c ps ++ c :: p
  | [], p, h => absurd rfl h
  | [q], p, _ => rfl
  | q :: r :: ps, p, _ => by
    have ih := joinC_snoc c (r :: ps) p (by simp)
    show q ++ c :: joinC c (r :: ps ++ [p]) = _
    rw [ih]
    show _ = (q ++ c :: joinC c (r :: ps)) ++ c :: p
    simp
theorem joinC_len (c : UInt8) (m : Nat) : ∀ ps : List (List UInt8), (∀ p ∈ ps, p.length ≤ m) → (joinC c ps).length ≤ (m + 1) * ps.length
  | [], _ => Nat.le_refl _
  | [p], h => by
    have := h p (by simp)
    show p.length ≤ _
    simp; omega
  | p :: q :: ps, h => by
    have ih := joinC_len c m (q :: ps) fun r hr => h r (by simp [List.mem_cons.1 hr])
    have := h p (by simp)
    show (p ++ c :: joinC c (q :: ps)).length ≤ _
    rw [List.length_append, List.length_cons]
    have e : (p :: q :: ps).length = (q :: ps).length + 1 := rfl
    rw [e, Nat.mul_add]
    omega
theorem ltxt_len {Q : List (Int × Int)} (h : Q.any badP = false) : (ltxt Q).length ≤ 62 * Q.length := by
  have := joinC_len 59 61 (Q.map ptxt) fun p hp => by
    obtain ⟨q, hq, rfl⟩ := List.mem_map.1 hp
    exact ptxt_len (x := q.1) (y := q.2) (good_at h hq)
  rw [List.length_map] at this
  exact this
theorem ptxt_no (p : Int × Int) : (59 : UInt8) ∉ ptxt p := by
  unfold ptxt
  intro h
  rcases List.mem_append.1 h with h | h
  · exact itoa_no (.inr rfl) h
  · rcases List.mem_cons.1 h with h | h
    · exact absurd h (by decide)
    · exact itoa_no (.inr rfl) h
theorem split_join (c : UInt8) : ∀ (p : List UInt8) (ps : List (List UInt8)), (∀ q ∈ p :: ps, c ∉ q) → splitC c (joinC c (p :: ps)) = p :: ps
  | p, [], h => splitC_no (h p (by simp))
  | p, q :: ps, h => by
    show splitC c (p ++ c :: joinC c (q :: ps)) = _
    rw [splitC_app _ (h p (by simp)), split_join c q ps fun r hr => h r (List.mem_cons_of_mem _ hr)]
theorem ltxt_reads {Q : List (Int × Int)} (hne : Q ≠ []) (h : Q.any badP = false) (hl : Q.length ≤ 100) : Reads ⟨(ltxt Q).toArray⟩ Q := by
  refine ⟨?_, hl⟩
  show (splitC 59 (joinC 59 (Q.map ptxt))).map readS = _
  cases Q with
  | nil => exact absurd rfl hne
  | cons q Q =>
    rw [List.map_cons, split_join 59 _ _ fun p hp => by
      rw [← List.map_cons] at hp
      obtain ⟨r, _, rfl⟩ := List.mem_map.1 hp
      exact ptxt_no r]
    rw [← List.map_cons, List.map_map]
    exact List.map_congr_left fun p hp => readS_iff.2 ⟨good_at h hp, rfl⟩
theorem ptxt_ne (p : Int × Int) : ptxt p ≠ [] := by unfold ptxt; simp
theorem ltxt_ne {Q : List (Int × Int)} (hne : Q ≠ []) : ((⟨(ltxt Q).toArray⟩ : ByteArray).data.toList == []) = false := by
  have : ltxt Q ≠ [] := by
    unfold ltxt
    match Q, hne with
    | [q], _ => exact ptxt_ne q
    | q :: r :: Q, _ => show ptxt q ++ 59 :: _ ≠ []; simp
  show (ltxt Q == []) = false
  exact beq_eq_false_iff_ne.2 this
theorem ltxt_small {Q : List (Int × Int)} (h : Q.any badP = false) (hl : Q.length ≤ 100) : (⟨(ltxt Q).toArray⟩ : ByteArray).size < 4294967281 := by
  have := ltxt_len h
  rw [bytes_size]; omega
/-- The program's loop: the texts of the first i points. -/
structure TxsI (Q : List (Int × Int)) (i : Int) (L sp : List Value) (n c : Nat) : Prop where
  lo : 0 ≤ i
  hi : i ≤ (Q.length : Int)
  num : (n : Int) = i
  row : Row L sp n c 1
  lst : L = tl ((Q.take i.toNat).map ptxt)
theorem TxsI.start (Q : List (Int × Int)) : TxsI Q 0 [] [] 0 0 := ⟨Int.le_refl _, by omega, rfl, Row.empty, rfl⟩
theorem TxsI.next {Q : List (Int × Int)} {i : Int} {L sp sp' : List Value} {n c c' : Nat} (h : TxsI Q i L sp n c) (hi : i < (Q.length : Int)) (hl : Q.length ≤ 1048576) (hr : Row (L ++ [.string ⟨(ptxt ((Q.getD i.toNat (0, 0)).1, (Q.getD i.toNat (0, 0)).2)).toArray⟩]) sp' (n + 1) c' 1) :
    TxsI Q (w64 (i + 1)) (L ++ [.string ⟨(ptxt ((Q.getD i.toNat (0, 0)).1, (Q.getD i.toNat (0, 0)).2)).toArray⟩]) sp' (n + 1) c' := by
  have h0 := h.lo; have h1 := h.num
  rw [w64_small (by omega) (by omega)]
  refine ⟨by omega, by omega, by omega, hr, ?_⟩
  rw [show (i + 1).toNat = i.toNat + 1 by omega, take_snocR (by omega), List.map_append, List.map_singleton, tl_snoc, h.lst]
theorem TxsI.mu {Q : List (Int × Int)} {i : Int} {L sp : List Value} {n c : Nat} (h : TxsI Q i L sp n c) (hi : i < (Q.length : Int)) (hl : Q.length ≤ 1048576) : ((Q.length : Int) - w64 (i + 1)).toNat < ((Q.length : Int) - i).toNat := by
  have h0 := h.lo
  rw [w64_small (by omega) (by omega)]; omega
theorem TxsI.fin {Q : List (Int × Int)} {i : Int} {L sp : List Value} {n c : Nat} (h : TxsI Q i L sp n c) (hi : ¬ i < (Q.length : Int)) : L = tl (Q.map ptxt) ∧ Row (tl (Q.map ptxt)) sp n c 1 := by
  have h1 := h.lst
  rw [List.take_of_length_le (by omega)] at h1
  exact ⟨h1, h1 ▸ h.row⟩
/-- The reference's loop: the text of the first i points. -/
structure LtxI (Q : List (Int × Int)) (i : Int) (u : ByteArray) : Prop where
  lo : 0 ≤ i
  hi : i ≤ (Q.length : Int)
  txt : u.data.toList = ltxt (Q.take i.toNat)
theorem LtxI.start (Q : List (Int × Int)) : LtxI Q 0 ⟨#[]⟩ := ⟨Int.le_refl _, by omega, rfl⟩
theorem any_take {Q : List (Int × Int)} (h : Q.any badP = false) (k : Nat) : (Q.take k).any badP = false := by
  rw [List.any_eq_false] at h ⊢
  exact fun x hx => h x (List.mem_of_mem_take hx)
theorem LtxI.size {Q : List (Int × Int)} {i : Int} {u : ByteArray} (h : LtxI Q i u) (hQ : Q.any badP = false) : u.size ≤ 62 * Q.length := by
  have := ltxt_len (any_take hQ i.toNat)
  rw [← h.txt, ← ba_len, List.length_take] at this
  omega
theorem ba_app (u v : ByteArray) : (u ++ v).data.toList = u.data.toList ++ v.data.toList := by simp
theorem LtxI.next1 {Q : List (Int × Int)} {i : Int} {u : ByteArray} (h : LtxI Q i u) (hi : i < (Q.length : Int)) (hl : Q.length ≤ 1048576) (h0 : decide (i > 0) = true) : LtxI Q (w64 (i + 1)) (u ++ ⟨#[59]⟩ ++ ⟨(ptxt ((Q.getD i.toNat (0, 0)).1, (Q.getD i.toNat (0, 0)).2)).toArray⟩) := by
  have h0 := of_decide_eq_true h0
  rw [w64_small (by omega) (by omega)]
  refine ⟨by omega, by omega, ?_⟩
  rw [show (i + 1).toNat = i.toNat + 1 by omega, take_snocR (by omega), ba_app, ba_app, h.txt]
  unfold ltxt
  rw [List.map_append, List.map_singleton, joinC_snoc]
  · simp
  · intro e
    have := congrArg List.length e
    rw [List.length_map, List.length_take, List.length_nil] at this
    omega
theorem LtxI.next0 {Q : List (Int × Int)} {i : Int} {u : ByteArray} (h : LtxI Q i u) (hi : i < (Q.length : Int)) (hl : Q.length ≤ 1048576) (h0 : decide (i > 0) = false) : LtxI Q (w64 (i + 1)) (u ++ ⟨(ptxt ((Q.getD i.toNat (0, 0)).1, (Q.getD i.toNat (0, 0)).2)).toArray⟩) := by
  have h0 := of_decide_eq_false h0
  have h1 := h.lo
  obtain rfl : i = 0 := by omega
  rw [w64_small (by omega) (by omega)]
  refine ⟨by omega, by omega, ?_⟩
  rw [show ((0 : Int) + 1).toNat = 0 + 1 by omega, take_snocR (by omega), ba_app, h.txt]
  rfl
theorem LtxI.mu {Q : List (Int × Int)} {i : Int} {u : ByteArray} (h : LtxI Q i u) (hi : i < (Q.length : Int)) (hl : Q.length ≤ 1048576) : ((Q.length : Int) - w64 (i + 1)).toNat < ((Q.length : Int) - i).toNat := by
  have h0 := h.lo
  rw [w64_small (by omega) (by omega)]; omega
theorem LtxI.fin {Q : List (Int × Int)} {i : Int} {u : ByteArray} (h : LtxI Q i u) (hi : ¬ i < (Q.length : Int)) : u = ⟨(ltxt Q).toArray⟩ := by
  have h1 := h.txt
  rw [List.take_of_length_le (by omega)] at h1
  rw [← h1]
theorem ptxt_sizeQ {Q : List (Int × Int)} {i : Int} (h : Q.any badP = false) (h0 : 0 ≤ i) (hi : i < (Q.length : Int)) : (⟨(ptxt ((Q.getD i.toNat (0, 0)).1, (Q.getD i.toNat (0, 0)).2)).toArray⟩ : ByteArray).size ≤ 61 := by
  rw [bytes_size]
  exact ptxt_len (good_at h (getD_mem (by omega)))
theorem goodQ {Q : List (Int × Int)} {i : Int} (h : Q.any badP = false) (h0 : 0 ≤ i) (hi : i < (Q.length : Int)) : isPtF (Q.getD i.toNat (0, 0)).1 (Q.getD i.toNat (0, 0)).2 = true := good_at h (getD_mem (by omega))
theorem join_ltxt {Q : List (Int × Int)} : join (Q.map ptxt) [59] = ltxt Q := join_joinC 59 _
theorem plain_allq {l : List Value} (h : Plain l) : allL plain0 l = true := by
  induction l with
  | nil => rfl
  | cons v l ih => unfold allL; rw [h v (by simp)]; exact ih fun u hu => h u (by simp [hu])
theorem joinQ_len {Q : List (Int × Int)} (h : Q.any badP = false) (hl : Q.length ≤ 100) : (join (Q.map ptxt) [59]).length ≤ 140737488355328 := by
  have := ltxt_len h
  rw [join_joinC]
  show (ltxt Q).length ≤ _
  omega
end Go.Ev
end
